/-
  Lemmas on the way, for every input that they name: McX.
-/
import Derived.Test.YtompdfpjmdnhoabGreatDoorQ13
import Derived.Test.YtompdfpjmdnhoabGreatDoorQ16
set_option linter.unusedVariables false
set_option linter.unusedSimpArgs false
set_option linter.deprecated false
namespace Go.Proofs.YtompdfpjmdnhoabGreatDoor.Mc
open Go.RowKit Go.Proofs.YtompdfpjmdnhoabGreatDoor.Rs
theorem row_cap {w : World} {B : Nat} {e : TypeId} {sz n c : Nat} {A : Option Addr} {xs : List Value} (h : Row w B e sz (.slice A n c) n xs) : n ≤ c := by
  rcases h.2 with ⟨rfl, _, hv⟩ | ⟨g, c', cur, hv, _, _, hn, _⟩
  · exact Nat.zero_le _
  · injection hv with _ _ h3; omega
theorem wr_at (a : Nat) (h : a ≤ 100) : wrap64 ((a : Int) + 3 - 3) = (a : Int) := by unfold wrap64; omega
theorem wr_at1 (a : Nat) (h : a ≤ 100) : wrap64 ((a : Int) + 1) = ((a + 1 : Nat) : Int) := by unfold wrap64; omega
theorem wr_at2 (a : Nat) (h : a ≤ 100) : IntKind.i64.wrap ((a : Int) + 1) = (a : Int) + 1 := by rw [IntKind.wrap_i64]; omega
set_option maxHeartbeats 8000000 in
set_option maxRecDepth 100000 in
theorem faulty_some (B : Nat) (sv bv mv : Value) (s : S) (code : Int) (w : World) (H : StRows w B sv bv mv s) (W : Wf s) (n : Nat) (hc : caught s = some n) :
    Calls Tryz.prog 46 #[.agg (sCells sv bv mv s), .int .i64 code] w fun e w' => ∃ sv' bv', e = .returned (.agg (sCells sv' bv' mv (faulty s code))) ∧
      Row w' w.heap.size 3 1 sv' (faulty s code).stack.length (ints (faulty s code).stack) ∧ (∃ A c k, bv = .slice A s.back.length c ∧ bv' = .slice A k c ∧ k ≤ s.back.length ∧ (faulty s code).back = s.back.take k ∧ k = (faulty s code).back.length) ∧ Below w.heap.size w w' := by
  have nb := W.nb
  have hcd : caught s = some n := hc
  unfold caught at hcd
  split at hcd
  · cases hcd
  rename_i hh
  split at hcd
  · rename_i h48
    injection hcd with hn
    obtain ⟨at_, hat⟩ : ∃ a : Nat, s.handler = (a : Int) + 3 := ⟨(s.handler - 3).toNat, by omega⟩
    have hlen : at_ + 3 ≤ s.back.length := by omega
    have hn48 : n < 48 := by omega
    have ha100 : at_ ≤ 100 := by omega
    have haL : at_ ≤ s.back.length := by omega
    have ha1 : at_ < s.back.length := by omega
    have ha2 : at_ + 1 < s.back.length := by omega
    have e1 := wr_at at_ ha100
    have e2 := wr_at1 at_ ha100
    have i1 : (at_ : Int) < (s.back.length : Int) := by omega
    have e3 : IntKind.i64.wrap ((at_ : Int) + 1) = (at_ : Int) + 1 := wr_at2 at_ ha100
    have i4 : (at_ : Int) + 1 < (s.back.length : Int) := by omega
    have i2 : ((at_ + 1 : Nat) : Int) < (s.back.length : Int) := by omega
    have i3 : (at_ : Int) ≤ (s.back.length : Int) := by omega
    have hnb100 : s.back.length ≤ 100 := by omega
    have hpos : 0 < s.back.length := by omega
    have hmul1 : at_ < s.back.length * 1 := by omega
    have hmul2 : at_ + 1 < s.back.length * 1 := by omega
    have hf : faulty s code = { s with ip := s.back.getD at_ 0, handler := s.back.getD (at_ + 1) 0, back := s.back.take at_, stack := s.stack.take n ++ List.replicate (n - s.stack.length) 0 ++ [code] } := by
      unfold faulty
      rw [hc]
      dsimp only
      rw [show s.handler.toNat - 3 = at_ by omega]
    have k1 := ((Below.refl w.heap.size w).alloc (Nat.le_refl _) (.cells (sCells sv bv mv s) 33)).alloc (by simp) (.cells #[.int .i64 0, .int .i64 0, .slice none 0 0, .slice none 0 0, .slice none 0 0, .string ⟨#[]⟩, .string ⟨#[]⟩, .int .i64 0, .int .i64 0, .int .i64 0] 33)
    have HC := Lib.hid (fun (w1 : World) (hb : Below w.heap.size w w1) => caught_any B sv bv mv s w1 (H.below hb (Nat.le_refl _)) hnb100 W.hd)
    have b1 := (Blk.new w 33 (sCells sv bv mv s)).alloc (.cells #[.int .i64 0, .int .i64 0, .slice none 0 0, .slice none 0 0, .slice none 0 0, .string ⟨#[]⟩, .string ⟨#[]⟩, .int .i64 0, .int .i64 0, .int .i64 0] 33)
    have b2 : Blk ((w.alloc (.cells (sCells sv bv mv s) 33)).alloc (.cells #[.int .i64 0, .int .i64 0, .slice none 0 0, .slice none 0 0, .slice none 0 0, .string ⟨#[]⟩, .string ⟨#[]⟩, .int .i64 0, .int .i64 0, .int .i64 0] 33)) (w.heap.size + 1) 33 #[.int .i64 0, .int .i64 0, .slice none 0 0, .slice none 0 0, .slice none 0 0, .string ⟨#[]⟩, .string ⟨#[]⟩, .int .i64 0, .int .i64 0, .int .i64 0] := by
      simpa using Blk.new (w.alloc (.cells (sCells sv bv mv s) 33)) 33 #[.int .i64 0, .int .i64 0, .slice none 0 0, .slice none 0 0, .slice none 0 0, .string ⟨#[]⟩, .string ⟨#[]⟩, .int .i64 0, .int .i64 0, .int .i64 0]
    obtain ⟨g, c, rfl, hcap, hbg, hg, hcell, _⟩ := H.bk.form hpos
    obtain ⟨SA, sc, rfl⟩ := H.st.slice
    have i5 : (at_ : Int) ≤ (c : Int) + 1 := by clear HC hcell; omega
    have i6 : (0 : Int) ≤ (at_ : Int) + 1 := by clear HC hcell; omega
    have y0 := hcell at_ hmul1
    have y1 := hcell (at_ + 1) hmul2
    rw [ints_get _ _ ha1] at y0
    rw [ints_get _ _ ha2] at y1
    have hst := H.st
    have Hlow : Hid (∀ k, roomBlock (.slice SA s.stack.length sc) = some k → k < w.heap.size) := fun k hk => (H.st.lt k hk).2
    have Hf := Lib.hid hf
    rw [hc] at HC
    generalize hx0 : s.back.getD at_ 0 = x0 at *
    generalize hx1 : s.back.getD (at_ + 1) 0 = x1 at *
    unfold sCells at *
    rw [hat] at b1 b2 k1 HC
    have HaL := Lib.hid haL
    clear haL
    generalize hL : s.back.length = L at *
    rw [hat]
    clear hf hh h48 hcell
    go_enter Tryz.func46, Tryz.ntmps46
    go_wp2_with fail
    generalize hw1 : (w.alloc (.cells #[.int .i64 s.ip, .int .i64 ((at_ : Int) + 3), .slice SA s.stack.length sc, .slice (some ⟨g, 0, none⟩) L (c + 1), mv, .string s.out, .string s.inp, .int .i64 s.read, .int .i64 s.status, .int .i64 s.code] 33)).alloc (.cells #[.int .i64 0, .int .i64 0, .slice none 0 0, .slice none 0 0, .slice none 0 0, .string ⟨#[]⟩, .string ⟨#[]⟩, .int .i64 0, .int .i64 0, .int .i64 0] 33) = w1 at *
    clear hw1
    refine (HC.out _ k1).mono ?_
    rintro e w2 ⟨x, rfl, hxn, t2⟩
    obtain rfl : x = (n : Int) := hxn n rfl
    clear hxn HC
    have B2 := b1.below t2 b1.lt
    have D2 := b2.below t2 b2.lt
    have F2 := k1.trans (t2.mono k1.size)
    have T2 : Touch w w2 (fun _ => False) := Touch.of_below F2 _
    have y0' : w2.cell? ⟨g, at_, none⟩ = some (.int .i64 x0) := (F2.cell (p := ⟨g, at_, none⟩) hg).trans y0
    have y1' : w2.cell? ⟨g, at_ + 1, none⟩ = some (.int .i64 x1) := (F2.cell (p := ⟨g, at_ + 1, none⟩) hg).trans y1
    have g1 : w2.cell? ⟨w.heap.size, 1, none⟩ = some (.int .i64 ((at_ : Int) + 3)) := B2.cell 1
    have hst2 := hst.touch T2 (fun _ _ => id)
    clear b1 b2 t2 k1 y0 y1 hst T2
    have B2' := Lib.hid B2
    have D2' := Lib.hid D2
    have F2' := Lib.hid F2
    have g3 : w2.cell? ⟨w.heap.size, 3, none⟩ = some (.slice (some ⟨g, 0, none⟩) L (c + 1)) := B2.cell 3
    clear B2 D2 F2
    go_wp2_with fail
    have b3 := B2'.out
    refine Ph.wp_region_U 19 (fun W => W.cell? ⟨w.heap.size, 3, none⟩ = some (.slice (some ⟨g, 0, none⟩) L (c + 1)) ∧ W.cell? ⟨g, at_, none⟩ = some (.int .i64 x0) ∧ W.cell? ⟨g, at_ + 1, none⟩ = some (.int .i64 x1)) (by kernel_rfl) ?_
    change Ph.wpU _ _ _ _ _ _ 21 #[false, false, false, false, false, false, false, false, false, false, false, false, false, false, false, false, false, false, false, false, false] _ _
    have HS0 : (fun W : World => W.cell? ⟨w.heap.size, 3, none⟩ = some (.slice (some ⟨g, 0, none⟩) L (c + 1)) ∧ W.cell? ⟨g, at_, none⟩ = some (.int .i64 x0) ∧ W.cell? ⟨g, at_ + 1, none⟩ = some (.int .i64 x1)) w2.drew := ⟨g3, y0', y1'⟩
    refine Ph.U_take (i := 0) (oi := { dst := some 22, op := .fieldAddr 33 (.tmp 2) 3, type := 0, pos := "inner.go:72", after := #[], guard := none }) (v := .pointer (some ⟨w.heap.size, 3, none⟩)) rfl (by kernel_rfl) (by kernel_rfl) (by kernel_rfl) (by kernel_rfl) (fun _ _ _ h => h) (Or.inl ⟨by rfl, ?_⟩) (by assumption) ?_
    · intro W hSw; (try dsimp only at hSw); go_simp
    simp only [Act.put, List.setIfInBounds_toArray, List.set_cons_zero, List.set_cons_succ]
    refine Ph.U_take (i := 1) (oi := { dst := some 23, op := .load 31 (.tmp 22), type := 31, pos := "inner.go:72", after := #[{ on := 0, ground := .data }], guard := none }) (v := .slice (some ⟨g, 0, none⟩) L (c + 1)) rfl (by kernel_rfl) (by kernel_rfl) (by kernel_rfl) (by kernel_rfl) (fun _ _ _ h => h) (Or.inl ⟨by rfl, ?_⟩) (by assumption) ?_
    · intro W hSw; (try dsimp only at hSw); go_simp
    simp only [Act.put, List.setIfInBounds_toArray, List.set_cons_zero, List.set_cons_succ]
    refine Ph.U_take (i := 2) (oi := { dst := some 24, op := .move (.tmp 7), type := 3, pos := "inner.go:72", after := #[], guard := none }) (v := .int .i64 (at_ : Int)) rfl (by kernel_rfl) (by kernel_rfl) (by kernel_rfl) (by kernel_rfl) (fun _ _ _ h => h) (Or.inl ⟨by rfl, ?_⟩) (by assumption) ?_
    · intro W hSw; (try dsimp only at hSw); go_simp
    simp only [Act.put, List.setIfInBounds_toArray, List.set_cons_zero, List.set_cons_succ]
    refine Ph.U_take (i := 3) (oi := { dst := some 25, op := .indexAddr 31 (.tmp 23) (.tmp 24), type := 0, pos := "inner.go:72", after := #[{ on := 1, ground := .data }, { on := 2, ground := .data }], guard := none }) (v := .pointer (some ⟨g, at_, none⟩)) rfl (by kernel_rfl) (by kernel_rfl) (by kernel_rfl) (by kernel_rfl) (fun _ _ _ h => h) (Or.inl ⟨by rfl, ?_⟩) (by assumption) ?_
    · intro W hSw; (try dsimp only at hSw); go_simp
    simp only [Act.put, List.setIfInBounds_toArray, List.set_cons_zero, List.set_cons_succ]
    refine Ph.U_take (i := 4) (oi := { dst := some 26, op := .load 3 (.tmp 25), type := 3, pos := "inner.go:72", after := #[{ on := 3, ground := .data }], guard := none }) (v := .int .i64 x0) rfl (by kernel_rfl) (by kernel_rfl) (by kernel_rfl) (by kernel_rfl) (fun _ _ _ h => h) (Or.inl ⟨by rfl, ?_⟩) (by assumption) ?_
    · intro W hSw; (try dsimp only at hSw); go_simp
    simp only [Act.put, List.setIfInBounds_toArray, List.set_cons_zero, List.set_cons_succ]
    refine Ph.U_take (i := 5) (oi := { dst := some 27, op := .fieldAddr 33 (.tmp 2) 3, type := 0, pos := "inner.go:72", after := #[], guard := none }) (v := .pointer (some ⟨w.heap.size, 3, none⟩)) rfl (by kernel_rfl) (by kernel_rfl) (by kernel_rfl) (by kernel_rfl) (fun _ _ _ h => h) (Or.inl ⟨by rfl, ?_⟩) (by assumption) ?_
    · intro W hSw; (try dsimp only at hSw); go_simp
    simp only [Act.put, List.setIfInBounds_toArray, List.set_cons_zero, List.set_cons_succ]
    refine Ph.U_take (i := 6) (oi := { dst := some 28, op := .load 31 (.tmp 27), type := 31, pos := "inner.go:72", after := #[{ on := 5, ground := .data }], guard := none }) (v := .slice (some ⟨g, 0, none⟩) L (c + 1)) rfl (by kernel_rfl) (by kernel_rfl) (by kernel_rfl) (by kernel_rfl) (fun _ _ _ h => h) (Or.inl ⟨by rfl, ?_⟩) (by assumption) ?_
    · intro W hSw; (try dsimp only at hSw); go_simp
    simp only [Act.put, List.setIfInBounds_toArray, List.set_cons_zero, List.set_cons_succ]
    refine Ph.U_take (i := 7) (oi := { dst := some 29, op := .move (.tmp 7), type := 3, pos := "inner.go:72", after := #[], guard := none }) (v := .int .i64 (at_ : Int)) rfl (by kernel_rfl) (by kernel_rfl) (by kernel_rfl) (by kernel_rfl) (fun _ _ _ h => h) (Or.inl ⟨by rfl, ?_⟩) (by assumption) ?_
    · intro W hSw; (try dsimp only at hSw); go_simp
    simp only [Act.put, List.setIfInBounds_toArray, List.set_cons_zero, List.set_cons_succ]
    refine Ph.U_take (i := 8) (oi := { dst := some 30, op := .binOp BinOp.add 3 (.tmp 29) (.const (Value.int IntKind.i64 1)) 3, type := 3, pos := "inner.go:72", after := #[{ on := 7, ground := .data }], guard := none }) (v := .int .i64 ((at_ : Int) + 1)) rfl (by kernel_rfl) (by kernel_rfl) (by kernel_rfl) (by kernel_rfl) (fun _ _ _ h => h) (Or.inl ⟨by rfl, ?_⟩) (by assumption) ?_
    · intro W hSw; (try dsimp only at hSw); go_simp
    simp only [Act.put, List.setIfInBounds_toArray, List.set_cons_zero, List.set_cons_succ]
    refine Ph.U_take (i := 9) (oi := { dst := some 31, op := .indexAddr 31 (.tmp 28) (.tmp 30), type := 0, pos := "inner.go:72", after := #[{ on := 6, ground := .data }, { on := 8, ground := .data }], guard := none }) (v := .pointer (some ⟨g, at_ + 1, none⟩)) rfl (by kernel_rfl) (by kernel_rfl) (by kernel_rfl) (by kernel_rfl) (fun _ _ _ h => h) (Or.inl ⟨by rfl, ?_⟩) (by assumption) ?_
    · intro W hSw; (try dsimp only at hSw); go_simp
    simp only [Act.put, List.setIfInBounds_toArray, List.set_cons_zero, List.set_cons_succ]
    refine Ph.U_take (i := 10) (oi := { dst := some 32, op := .load 3 (.tmp 31), type := 3, pos := "inner.go:72", after := #[{ on := 9, ground := .data }], guard := none }) (v := .int .i64 x1) rfl (by kernel_rfl) (by kernel_rfl) (by kernel_rfl) (by kernel_rfl) (fun _ _ _ h => h) (Or.inl ⟨by rfl, ?_⟩) (by assumption) ?_
    · intro W hSw; (try dsimp only at hSw); go_simp
    simp only [Act.put, List.setIfInBounds_toArray, List.set_cons_zero, List.set_cons_succ]
    refine Ph.U_take (i := 11) (oi := { dst := some 33, op := .fieldAddr 33 (.tmp 2) 3, type := 0, pos := "inner.go:72", after := #[], guard := none }) (v := .pointer (some ⟨w.heap.size, 3, none⟩)) rfl (by kernel_rfl) (by kernel_rfl) (by kernel_rfl) (by kernel_rfl) (fun _ _ _ h => h) (Or.inl ⟨by rfl, ?_⟩) (by assumption) ?_
    · intro W hSw; (try dsimp only at hSw); go_simp
    simp only [Act.put, List.setIfInBounds_toArray, List.set_cons_zero, List.set_cons_succ]
    refine Ph.U_take (i := 12) (oi := { dst := some 34, op := .load 31 (.tmp 33), type := 31, pos := "inner.go:72", after := #[{ on := 11, ground := .data }], guard := none }) (v := .slice (some ⟨g, 0, none⟩) L (c + 1)) rfl (by kernel_rfl) (by kernel_rfl) (by kernel_rfl) (by kernel_rfl) (fun _ _ _ h => h) (Or.inl ⟨by rfl, ?_⟩) (by assumption) ?_
    · intro W hSw; (try dsimp only at hSw); go_simp
    simp only [Act.put, List.setIfInBounds_toArray, List.set_cons_zero, List.set_cons_succ]
    refine Ph.U_take (i := 13) (oi := { dst := some 35, op := .move (.tmp 7), type := 3, pos := "inner.go:72", after := #[], guard := none }) (v := .int .i64 (at_ : Int)) rfl (by kernel_rfl) (by kernel_rfl) (by kernel_rfl) (by kernel_rfl) (fun _ _ _ h => h) (Or.inl ⟨by rfl, ?_⟩) (by assumption) ?_
    · intro W hSw; (try dsimp only at hSw); go_simp
    simp only [Act.put, List.setIfInBounds_toArray, List.set_cons_zero, List.set_cons_succ]
    refine Ph.U_take (i := 14) (oi := { dst := some 36, op := .slice 31 (.tmp 34) none (some (.tmp 35)) none, type := 31, pos := "inner.go:72", after := #[{ on := 12, ground := .data }, { on := 13, ground := .data }], guard := none }) (v := .slice (some ⟨g, 0, none⟩) at_ (c + 1)) rfl (by kernel_rfl) (by kernel_rfl) (by kernel_rfl) (by kernel_rfl) (fun _ _ _ h => h) (Or.inl ⟨by rfl, ?_⟩) (by assumption) ?_
    · intro W hSw; (try dsimp only at hSw); go_simp
    simp only [Act.put, List.setIfInBounds_toArray, List.set_cons_zero, List.set_cons_succ]
    have B3 : Hid (Blk w2.drew w.heap.size 33 _) := B2'
    have D3 : Hid (Blk w2.drew (w.heap.size + 1) 33 _) := D2'
    have F3 : Hid (Below w.heap.size w w2.drew) := below_of_draw F2'.out 1
    have hst3 : Hid (Row w2.drew B 3 1 (.slice SA s.stack.length sc) s.stack.length (ints s.stack)) := hst2
    have HS2 : (fun W : World => W.cell? ⟨w.heap.size, 3, none⟩ = some (.slice (some ⟨g, 0, none⟩) L (c + 1)) ∧ W.cell? ⟨g, at_, none⟩ = some (.int .i64 x0) ∧ W.cell? ⟨g, at_ + 1, none⟩ = some (.int .i64 x1)) w2.drew := HS0
    clear HS0 b3 g1 g3 y0' y1' hst2 B2' D2' F2'
    generalize w2.drew = w3 at *
    refine Ph.U_take (i := 15) (oi := { dst := some 37, op := .fieldAddr 33 (.tmp 2) 0, type := 0, pos := "inner.go:72", after := #[{ on := 0, ground := .phase }, { on := 1, ground := .phase }, { on := 2, ground := .phase }, { on := 3, ground := .phase }, { on := 4, ground := .phase }, { on := 5, ground := .phase }, { on := 6, ground := .phase }, { on := 7, ground := .textOnly .lateStores }, { on := 8, ground := .textOnly .lateStores }, { on := 9, ground := .textOnly .lateStoresUnsure }, { on := 10, ground := .textOnly .lateStoresUnsure }, { on := 11, ground := .phase }, { on := 12, ground := .phase }, { on := 13, ground := .textOnly .lateStores }, { on := 14, ground := .textOnly .lateStoresUnsure }], guard := none }) (v := .pointer (some ⟨w.heap.size, 0, none⟩)) rfl (by kernel_rfl) (by kernel_rfl) (by kernel_rfl) (by kernel_rfl) (fun _ _ _ h => h) (Or.inl ⟨by rfl, ?_⟩) (by assumption) ?_
    · intro W hSw; (try dsimp only at hSw); go_simp
    simp only [Act.put, List.setIfInBounds_toArray, List.set_cons_zero, List.set_cons_succ]
    have g0 := B3.out.cell 0
    have z0 := B3.out.frozen 0
    have T3 : Touch w3 (w3.setCell ⟨w.heap.size, 0, none⟩ (.int .i64 x0)) (fun k => k = w.heap.size) := set_touch _ _ _ _
    have B4 := Lib.hid (B3.out.set_ 0 (.int .i64 x0))
    have TT3 := Lib.hid T3
    have HS3 : (fun W : World => W.cell? ⟨w.heap.size, 3, none⟩ = some (.slice (some ⟨g, 0, none⟩) L (c + 1)) ∧ W.cell? ⟨g, at_, none⟩ = some (.int .i64 x0) ∧ W.cell? ⟨g, at_ + 1, none⟩ = some (.int .i64 x1)) (w3.setCell ⟨w.heap.size, 0, none⟩ (.int .i64 x0)) := ⟨B4.out.cell 3, (World.cell?_setCell_far _ _ _ _ (by simp; omega)).trans HS2.2.1, (World.cell?_setCell_far _ _ _ _ (by simp; omega)).trans HS2.2.2⟩
    refine Ph.U_ready (rs := [16]) (by kernel_rfl) (by simp) ?_
    refine Ph.AllReadyU.cons rfl (fun K hK => ?_) Ph.AllReadyU.nil
    go_simp
    refine hK.out _ _ (fun _ => HS3) ?_
    clear hK K
    simp only [Act.put, List.setIfInBounds_toArray, List.set_cons_zero, List.set_cons_succ]
    clear T3 g0 z0 HS2
    generalize w3.setCell ⟨w.heap.size, 0, none⟩ (.int .i64 x0) = w4 at *
    refine Ph.U_take (i := 17) (oi := { dst := some 38, op := .fieldAddr 33 (.tmp 2) 1, type := 0, pos := "inner.go:72", after := #[{ on := 0, ground := .phase }, { on := 1, ground := .phase }, { on := 2, ground := .phase }, { on := 3, ground := .phase }, { on := 4, ground := .phase }, { on := 5, ground := .phase }, { on := 6, ground := .phase }, { on := 7, ground := .phase }, { on := 8, ground := .phase }, { on := 9, ground := .phase }, { on := 10, ground := .phase }, { on := 11, ground := .phase }, { on := 12, ground := .phase }, { on := 13, ground := .textOnly .lateStores }, { on := 14, ground := .textOnly .lateStoresUnsure }, { on := 15, ground := .phase }, { on := 16, ground := .phase }], guard := none }) (v := .pointer (some ⟨w.heap.size, 1, none⟩)) rfl (by kernel_rfl) (by kernel_rfl) (by kernel_rfl) (by kernel_rfl) (fun _ _ _ h => h) (Or.inl ⟨by rfl, ?_⟩) (by assumption) ?_
    · intro W hSw; (try dsimp only at hSw); go_simp
    simp only [Act.put, List.setIfInBounds_toArray, List.set_cons_zero, List.set_cons_succ]
    have g1 := B4.out.cell 1
    have z1 := B4.out.frozen 1
    have T4 : Touch w4 (w4.setCell ⟨w.heap.size, 1, none⟩ (.int .i64 x1)) (fun k => k = w.heap.size) := set_touch _ _ _ _
    have B5 := Lib.hid (B4.out.set_ 1 (.int .i64 x1))
    have TT4 := Lib.hid T4
    have HS4 : (fun W : World => W.cell? ⟨w.heap.size, 3, none⟩ = some (.slice (some ⟨g, 0, none⟩) L (c + 1)) ∧ W.cell? ⟨g, at_, none⟩ = some (.int .i64 x0) ∧ W.cell? ⟨g, at_ + 1, none⟩ = some (.int .i64 x1)) (w4.setCell ⟨w.heap.size, 1, none⟩ (.int .i64 x1)) := ⟨B5.out.cell 3, (World.cell?_setCell_far _ _ _ _ (by simp; omega)).trans HS3.2.1, (World.cell?_setCell_far _ _ _ _ (by simp; omega)).trans HS3.2.2⟩
    refine Ph.U_ready (rs := [18]) (by kernel_rfl) (by simp) ?_
    refine Ph.AllReadyU.cons rfl (fun K hK => ?_) Ph.AllReadyU.nil
    go_simp
    refine hK.out _ _ (fun _ => HS4) ?_
    clear hK K
    simp only [Act.put, List.setIfInBounds_toArray, List.set_cons_zero, List.set_cons_succ]
    clear T4 g1 z1 HS3
    generalize w4.setCell ⟨w.heap.size, 1, none⟩ (.int .i64 x1) = w5 at *
    refine Ph.U_pure (i := 19) (oi := { dst := some 39, op := .fieldAddr 33 (.tmp 2) 3, type := 0, pos := "inner.go:72", after := #[{ on := 0, ground := .phase }, { on := 1, ground := .phase }, { on := 2, ground := .phase }, { on := 3, ground := .phase }, { on := 4, ground := .phase }, { on := 5, ground := .phase }, { on := 6, ground := .phase }, { on := 7, ground := .phase }, { on := 8, ground := .phase }, { on := 9, ground := .phase }, { on := 10, ground := .phase }, { on := 11, ground := .phase }, { on := 12, ground := .phase }, { on := 13, ground := .phase }, { on := 14, ground := .phase }, { on := 15, ground := .phase }, { on := 16, ground := .phase }, { on := 17, ground := .phase }, { on := 18, ground := .phase }], guard := none }) (v := .pointer (some ⟨w.heap.size, 3, none⟩)) rfl (by kernel_rfl) (by kernel_rfl) (by kernel_rfl) (by decide) (fun _ _ _ h => h) (Or.inl ⟨by rfl, ?_⟩) ?_
    · intro W hSw; (try dsimp only at hSw); go_simp
    simp only [Act.put, List.setIfInBounds_toArray, List.set_cons_zero, List.set_cons_succ]
    have g3 := B5.out.cell 3
    have z3 := B5.out.frozen 3
    have T5 : Touch w5 (w5.setCell ⟨w.heap.size, 3, none⟩ (.slice (some ⟨g, 0, none⟩) at_ (c + 1))) (fun k => k = w.heap.size) := set_touch _ _ _ _
    have B6 := Lib.hid (B5.out.set_ 3 (.slice (some ⟨g, 0, none⟩) at_ (c + 1)))
    have TT5 := Lib.hid T5
    refine Ph.U_ready (rs := [20]) (by kernel_rfl) (by simp) ?_
    refine Ph.AllReadyU.cons rfl (fun K hK => ?_) Ph.AllReadyU.nil
    go_simp
    refine hK.out _ _ (fun h => absurd h (by decide)) ?_
    clear hK K
    simp only [Act.put, List.setIfInBounds_toArray, List.set_cons_zero, List.set_cons_succ]
    clear T5 g3 z3
    generalize w5.setCell ⟨w.heap.size, 3, none⟩ (.slice (some ⟨g, 0, none⟩) at_ (c + 1)) = w6 at *
    refine Ph.U_done (by kernel_rfl) ?_ _
    have TTst : Hid (Touch w3 w6 (fun k => k = w.heap.size)) := (TT3.out.trans TT4.out (fun _ h => .inl h)).trans TT5.out (fun _ h => .inl h)
    have TT : Touch w3 w6 (fun k => k = w.heap.size) := (TT3.out.trans TT4.out (fun _ h => .inl h)).trans TT5.out (fun _ h => .inl h)
    have D6 := Lib.hid ((TT.block _ D3.out.lt (by omega)).trans D3.out)
    have D6lt : Hid (w.heap.size + 1 < w6.heap.size) := Nat.lt_of_lt_of_le D3.out.lt TT.size
    have F6 := Lib.hid (F3.out.trans (TT.below (B := w.heap.size) (fun k h => by omega) F3.out.size))
    clear TT TT3 TT4 TT5 D3 F3
    have B6c := B6
    simp only [List.setIfInBounds_toArray, List.set_cons_zero, List.set_cons_succ] at B6c
    have g2 : w6.cell? ⟨w.heap.size, 2, none⟩ = some (.slice SA s.stack.length sc) := B6c.out.cell 2
    have z2 := B6c.out.frozen 2
    have hst6 := hst3.out.touch TTst.out (fun k hk h => absurd h (Nat.ne_of_lt (Hlow.out k hk)))
    have hcs := row_cap hst6
    have hrt := hst6.take (k := min n s.stack.length) (Nat.min_le_right _ _)
    rw [Nat.mul_one, ints_take] at hrt
    have htl : (s.stack.take (min n s.stack.length)).length = min n s.stack.length := by rw [List.length_take]; omega
    have hns := W.ns
    have HCl := Lib.hid (clone_row B SA sc (min n s.stack.length) (s.stack.take (min n s.stack.length)) htl.symm w6 hrt (by omega))
    have hmi : min (n : Int) (s.stack.length : Int) = ((min n s.stack.length : Nat) : Int) := by omega
    have hm0 : min n s.stack.length ≤ n := Nat.min_le_left _ _
    have hm1 : min n s.stack.length ≤ s.stack.length := Nat.min_le_right _ _
    generalize hm : min n s.stack.length = m at *
    have hm2 : (m : Int) ≤ (s.stack.length : Int) := by omega
    have hm3 : (m : Int) ≤ (sc : Int) := by omega
    have hm4 : m ≤ sc := by omega
    clear hrt hst6
    go_wp2_with fail
    refine HCl.out.mono ?_
    rintro e w7 ⟨A2, c2, rfl, r2, t2⟩
    have B7 := Lib.hid (B6c.out.below t2 B6c.out.lt)
    have D7 := Lib.hid (Blk.below (t := 33) D6.out t2 (Nat.lt_of_lt_of_le D6lt.out (Nat.le_refl _)))
    have F7 := Lib.hid (F6.out.trans (t2.mono F6.out.size))
    have g2' := B7.out.cell 2
    have z2' := B7.out.frozen 2
    simp only [List.getElem?_toArray, List.getElem?_cons_zero, List.getElem?_cons_succ] at g2'
    have Ts := set_touch w7 w.heap.size 2 (.slice A2 m c2)
    have B8 := B7.out.set_ 2 (.slice A2 m c2)
    simp only [List.setIfInBounds_toArray, List.set_cons_zero, List.set_cons_succ] at B8
    have hz76 := t2.size
    have h62 : w.heap.size + 2 ≤ w6.heap.size := D6lt.out
    have R8 : Row (w7.setCell ⟨w.heap.size, 2, none⟩ (.slice A2 m c2)) (w.heap.size + 2) 3 1 (.slice A2 m c2) m (ints (s.stack.take m ++ List.replicate (m - m) 0)) := by
      rw [Nat.sub_self, List.replicate_zero, List.append_nil]
      exact (r2.mono h62).touch Ts (fun k hk h => by have := (r2.lt k hk).1; omega)
    have D8 : Blk (w7.setCell ⟨w.heap.size, 2, none⟩ (.slice A2 m c2)) (w.heap.size + 1) 33 #[.int .i64 0, .int .i64 0, .slice none 0 0, .slice none 0 0, .slice none 0 0, .string ⟨#[]⟩, .string ⟨#[]⟩, .int .i64 0, .int .i64 0, .int .i64 0] := D7.out.far (p := ⟨w.heap.size, 2, none⟩) (by simp) _
    have F8 := F7.out.trans (Ts.below (B := w.heap.size) (fun k h => by omega) F7.out.size)
    have B8' := Lib.hid B8
    have R8' := Lib.hid R8
    have D8' := Lib.hid D8
    have F8' := Lib.hid F8
    clear B8 R8 D8 F8 r2 t2 Ts g2 z2 B6 B6c D6 F6 B7 D7 F7 HCl TTst Hlow hst3 hm2 hm3 hm4 hmi hcs e1 e2 e3 i1 i2 i3 i4 i5 i6
    go_wp2_with fail
    generalize w7.setCell ⟨w.heap.size, 2, none⟩ (.slice A2 m c2) = w8 at *
    clear g2' z2' hz76 h62 D6lt hnb100 hpos hmul1 hmul2 ha1 ha2 hlen
    generalize hks : s.stack.take m = ks at *
    generalize hbb : w.heap.size = b0 at *
    obtain ⟨i0, hi, hz0, hz1, hz2⟩ := info_parts infoInt
    have HI0 := Lib.hid (And.intro hi (And.intro hz0 (And.intro hz1 hz2)))
    clear hi hz0 hz1 hz2
    have hm0' := Lib.hid hm0
    go_loopg [] (n - m) (fun gg wr => ∃ (j : Nat) (A : Option Addr) (ck : Nat), gg = n - j ∧ m ≤ j ∧ j ≤ n ∧ Hid (Blk wr b0 33 #[.int .i64 x0, .int .i64 x1, .slice A j ck, .slice (some ⟨g, 0, none⟩) at_ (c + 1), mv, .string s.out, .string s.inp, .int .i64 s.read, .int .i64 s.status, .int .i64 s.code]) ∧ Hid (Row wr (b0 + 2) 3 1 (.slice A j ck) j (ints (ks ++ List.replicate (j - m) 0))) ∧ Hid (Blk wr (b0 + 1) 33 #[.int .i64 0, .int .i64 0, .slice none 0 0, .slice none 0 0, .slice none 0 0, .string ⟨#[]⟩, .string ⟨#[]⟩, .int .i64 0, .int .i64 0, .int .i64 0]) ∧ Hid (Below b0 w wr))
    case atStart => exact ⟨m, A2, c2, rfl, Nat.le_refl _, hm0, B8', R8', D8', F8'⟩
    case round =>
      obtain ⟨j, A, ck, hg', hj1, hj2, HB, HR, HD, HF⟩ := hrel
      have g2 : wr.cell? ⟨b0, 2, none⟩ = some (.slice A j ck) := HB.out.cell 2
      have z2 := HB.out.frozen 2
      have Hg := Lib.hid hg'
      have Hj := Lib.hid (And.intro hj1 hj2)
      clear hg'
      by_cases hjn : j < n
      · have hjd : decide (j < n) = true := by simpa using hjn
        have hji : (j : Int) < (n : Int) := by omega
        have hal := alloc_touch wr (.cells #[.int .i64 0] 3) (fun _ => False)
        have hRa := HR.out.touch hal (fun _ _ => id)
        have hBa := HB.out.alloc (.cells #[.int .i64 0] 3)
        have hDa := HD.out.alloc (.cells #[.int .i64 0] 3)
        have hFa := HF.out.alloc (by have := HF.out.size; have := HD.out.lt; omega) (.cells #[.int .i64 0] 3)
        have hsz : b0 + 2 ≤ (wr.alloc (.cells #[.int .i64 0] 3)).heap.size := by have := HD.out.lt; simp; omega
        have hrd : Reads (wr.alloc (.cells #[.int .i64 0] 3)) (wr.alloc (.cells #[.int .i64 0] 3)).heap.size 1 (some ⟨wr.heap.size, 0, none⟩) 1 (ints [0]) := reads_new wr [0] 3
        go_wp2_with (at_builtin; refine wpList_append_row _ rfl _ _ 31 rfl (b0 + 2) 3 i0 (.int .i64 0) 1 8 Tryz.underlying31 HI0.out.1 HI0.out.2.1 HI0.out.2.2.1 HI0.out.2.2.2 rfl (by decide) _ _ _ rfl hRa (wr.alloc (.cells #[.int .i64 0] 3)).heap.size (some ⟨wr.heap.size, 0, none⟩) 1 1 _ rfl hrd (ints_one _) ?c1 ?c2 hsz ?_)
        case c1 => unfold maxLen; clear HI0; omega
        case c2 => clear HI0; omega
        intro v' w2 hrow hg hv
        obtain ⟨VA, vc, rfl⟩ := hrow.slice
        have hne0 : some b0 ≠ roomBlock (.slice A j ck) := fun e => by have := (HR.out.lt b0 e.symm).1; omega
        have hne1 : some (b0 + 1) ≠ roomBlock (.slice A j ck) := fun e => by have := (HR.out.lt (b0 + 1) e.symm).1; omega
        have B2 := hBa.grown hg hne0
        have D2 := hDa.grown hg hne1
        have F2 : Below b0 w w2 := hFa.trans ((Touch.of_grown (S := fun k => b0 ≤ k) hg (fun k hk => .inl (by have := (HR.out.lt k hk).1; omega))).below (fun k h => h) (by omega))
        have d2 : w2.cell? ⟨b0, 2, none⟩ = some (.slice A j ck) := B2.cell 2
        have f2 := B2.frozen 2
        have Ts := set_touch w2 b0 2 (.slice VA (j + 1) vc)
        have B3 := B2.set_ 2 (.slice VA (j + 1) vc)
        simp only [List.setIfInBounds_toArray, List.set_cons_zero, List.set_cons_succ] at B3
        have R3 := hrow.touch Ts (fun k hk h => by have := (hrow.lt k hk).1; omega)
        have D3 := D2.far (p := ⟨b0, 2, none⟩) (by simp) (.slice VA (j + 1) vc)
        have F3 := F2.trans (Ts.below (B := b0) (fun k h => by omega) (by have := B2.lt; omega))
        have B3' := Lib.hid B3
        have R3' := Lib.hid R3
        have D3' := Lib.hid D3
        have F3' := Lib.hid F3
        clear B2 D2 F2 Ts B3 R3 D3 F3 hrow hg hv hal hRa hBa hDa hFa hrd hne0 hne1
        go_wp2_with fail
        go_roundg (n - (j + 1))
        case rel =>
          refine ⟨j + 1, VA, vc, rfl, by have := Hj.out.1; omega, by omega, B3', ?_, D3', F3'⟩
          have e := R3'.out
          rw [← ints_append, List.append_assoc] at e
          have e2 : List.replicate (j - m) (0 : Int) ++ [0] = List.replicate (j + 1 - m) 0 := by
            have hj := Hj.out.1
            rw [show j + 1 - m = (j - m) + 1 by omega, List.replicate_succ']
          rw [e2] at e
          exact e
        case measure => have := Hg.out; omega
      · obtain rfl : j = n := by omega
        have hjd : decide (j < j) = false := by simp
        have hR0 := HR.out
        generalize hl : ks ++ List.replicate (j - m) 0 = ls at *
        have hal := alloc_touch wr (.cells #[.int .i64 code] 3) (fun _ => False)
        have hRa := HR.out.touch hal (fun _ _ => id)
        have hBa := HB.out.alloc (.cells #[.int .i64 code] 3)
        have hDa := HD.out.alloc (.cells #[.int .i64 code] 3)
        have hFa := HF.out.alloc (by have := HF.out.size; have := HD.out.lt; omega) (.cells #[.int .i64 code] 3)
        have hsz : b0 + 2 ≤ (wr.alloc (.cells #[.int .i64 code] 3)).heap.size := by have := HD.out.lt; simp; omega
        have hrd : Reads (wr.alloc (.cells #[.int .i64 code] 3)) (wr.alloc (.cells #[.int .i64 code] 3)).heap.size 1 (some ⟨wr.heap.size, 0, none⟩) 1 (ints [code]) := reads_new wr [code] 3
        go_wp2_with (at_builtin; refine wpList_append_row _ rfl _ _ 31 rfl (b0 + 2) 3 i0 (.int .i64 0) 1 8 Tryz.underlying31 HI0.out.1 HI0.out.2.1 HI0.out.2.2.1 HI0.out.2.2.2 rfl (by decide) _ _ _ rfl hRa (wr.alloc (.cells #[.int .i64 code] 3)).heap.size (some ⟨wr.heap.size, 0, none⟩) 1 1 _ rfl hrd (ints_one _) ?c1 ?c2 hsz ?_)
        case c1 => unfold maxLen; clear HI0; omega
        case c2 => clear HI0; omega
        intro v' w2 hrow hg hv
        obtain ⟨VA, vc, rfl⟩ := hrow.slice
        have hne0 : some b0 ≠ roomBlock (.slice A j ck) := fun e => by have := (HR.out.lt b0 e.symm).1; omega
        have hne1 : some (b0 + 1) ≠ roomBlock (.slice A j ck) := fun e => by have := (HR.out.lt (b0 + 1) e.symm).1; omega
        have B2 := hBa.grown hg hne0
        have D2 := hDa.grown hg hne1
        have F2 : Below b0 w w2 := hFa.trans ((Touch.of_grown (S := fun k => b0 ≤ k) hg (fun k hk => .inl (by have := (HR.out.lt k hk).1; omega))).below (fun k h => h) (by omega))
        have d2 : w2.cell? ⟨b0, 2, none⟩ = some (.slice A j ck) := B2.cell 2
        have f2 := B2.frozen 2
        have Ts := set_touch w2 b0 2 (.slice VA (j + 1) vc)
        have B3 := B2.set_ 2 (.slice VA (j + 1) vc)
        simp only [List.setIfInBounds_toArray, List.set_cons_zero, List.set_cons_succ] at B3
        have R3 := hrow.touch Ts (fun k hk h => by have := (hrow.lt k hk).1; omega)
        have D3 := D2.far (p := ⟨b0, 2, none⟩) (by simp) (.slice VA (j + 1) vc)
        have F3 := F2.trans (Ts.below (B := b0) (fun k h => by omega) (by have := B2.lt; omega))
        have B3' := Lib.hid B3
        have R3' := Lib.hid R3
        have D3' := Lib.hid D3
        have F3' := Lib.hid F3
        clear B2 D2 F2 Ts B3 R3 D3 F3 hrow hg hv hal hRa hBa hDa hFa hrd hne0 hne1
        have x2 := B3'.out.cell 0; have x3 := B3'.out.cell 1; have x4 := B3'.out.cell 2; have x5 := B3'.out.cell 3; have x6 := B3'.out.cell 4
        have x7 := B3'.out.cell 5; have x8 := B3'.out.cell 6; have x9 := B3'.out.cell 7; have xa := B3'.out.cell 8; have xb := B3'.out.cell 9
        simp only [List.getElem?_toArray, List.getElem?_cons_zero, List.getElem?_cons_succ] at x2 x3 x4 x5 x6 x7 x8 x9 xa xb
        have h1 : (#[.int .i64 x0, .int .i64 x1, .slice VA (j + 1) vc, .slice (some ⟨g, 0, none⟩) at_ (c + 1), mv, .string s.out, .string s.inp, .int .i64 s.read, .int .i64 s.status, .int .i64 s.code] : Array Value).all (·.oneCell') = true := by
          obtain ⟨MA, mc, rfl⟩ := H.me.slice
          simp [Value.oneCell']
        have hi2 : (Tryz.prog.info? 33).map (·.size) = some (#[.int .i64 x0, .int .i64 x1, .slice VA (j + 1) vc, .slice (some ⟨g, 0, none⟩) at_ (c + 1), mv, .string s.out, .string s.inp, .int .i64 s.read, .int .i64 s.status, .int .i64 s.code] : Array Value).size := by kernel_rfl
        have H1 := Lib.hid h1
        have HI := Lib.hid hi2
        clear h1 hi2
        generalize hw3 : w2.setCell ⟨b0, 2, none⟩ (.slice VA (j + 1) vc) = w3 at *
        go_wp2_with (refine wpList_store_row rfl _ _ _ rfl (b0 + 1) #[.int .i64 x0, .int .i64 x1, .slice VA (j + 1) vc, .slice (some ⟨g, 0, none⟩) at_ (c + 1), mv, .string s.out, .string s.inp, .int .i64 s.read, .int .i64 s.status, .int .i64 s.code] rfl rfl _ _ D3'.out HI.out rfl H1.out ?_)
        have hlL : ls.length = j := by
          rw [← hl, ← hks, List.length_append, List.length_replicate, List.length_take]
          have := Hj.out.1
          omega
        have hsE : s.stack.take j ++ List.replicate (j - s.stack.length) 0 = ls := by
          rw [← hl, ← hks]
          rcases Nat.le_total j s.stack.length with h | h
          · rw [show m = j by omega, show j - s.stack.length = 0 by omega, Nat.sub_self]
          · rw [show m = s.stack.length by omega, List.take_of_length_le h, List.take_length]
        have hLA := HaL.out
        subst hbb
        refine bodyPost_ret (results_cell_row rfl _ _ (w.heap.size + 1) _ _ (0, 0) _ rfl (setRow_heap _ _ _ _ _ _ D3'.out) Tryz.underlying33 rfl HI.out) rfl ⟨.slice VA (j + 1) vc, .slice (some ⟨g, 0, none⟩) at_ (c + 1), ?_, ?_, ⟨some ⟨g, 0, none⟩, c + 1, at_, ?_, rfl, ?_, ?_, ?_⟩, ?_⟩
        · rw [Hf.out]
        · rw [Hf.out]
          dsimp only
          rw [hsE]
          have T : Touch w3 (w3.setRow (w.heap.size + 1) #[.int .i64 x0, .int .i64 x1, .slice VA (j + 1) vc, .slice (some ⟨g, 0, none⟩) at_ (c + 1), mv, .string s.out, .string s.inp, .int .i64 s.read, .int .i64 s.status, .int .i64 s.code]) (fun k => k = w.heap.size + 1) := Wv.touch_setRow _ _ _
          have R := ((R3'.out.touch T (fun k hk h => by have := (R3'.out.lt k hk).1; omega)).mono (B' := w.heap.size) (by omega))
          rw [← ints_append] at R
          rw [show j + 1 = (ls ++ [code]).length by simp [hlL]] at R ⊢
          exact R
        · rfl
        · exact hLA
        · rw [Hf.out]
        · rw [Hf.out]
          dsimp only
          rw [List.length_take, hL]
          exact (Nat.min_eq_left hLA).symm
        · exact F3'.out.trans ⟨rfl, rfl, rfl, by simp, fun k hk => setRow_other _ _ _ _ (Nat.ne_of_lt (Nat.lt_succ_of_lt hk))⟩
  · cases hcd
end Go.Proofs.YtompdfpjmdnhoabGreatDoor.Mc
