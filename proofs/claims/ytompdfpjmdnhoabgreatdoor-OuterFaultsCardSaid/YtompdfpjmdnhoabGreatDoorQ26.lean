/-
  Lemmas on the way, for every input that they name: OwC, OwD, OwE, OwF, Nc.
-/
import Derived.Test.YtompdfpjmdnhoabGreatDoorQ12
import Derived.Test.YtompdfpjmdnhoabGreatDoorQ22
import Derived.Test.YtompdfpjmdnhoabGreatDoorQ24
import Derived.Test.YtompdfpjmdnhoabGreatDoorQ25
set_option linter.unusedVariables false
set_option linter.unusedSimpArgs false
set_option linter.deprecated false
namespace Go.Proofs.YtompdfpjmdnhoabGreatDoor.Ou
open Go.RowKit Go.Proofs.YtompdfpjmdnhoabGreatDoor.Rs
theorem row_cap {w : World} {B : Nat} {e : TypeId} {sz n c : Nat} {A : Option Addr} {xs : List Value} (h : Row w B e sz (.slice A n c) n xs) : n ≤ c := Mc.row_cap h
theorem room_take {A : Option Addr} {n k c : Nat} : ∀ b, roomBlock (.slice A k c) = some b → roomBlock (.slice A n c) = some b := by
  intro b h
  cases A with
  | none => simp [roomBlock] at h
  | some a => cases c with
    | zero => simp [roomBlock] at h
    | succ c => simpa [roomBlock] using h
set_option maxHeartbeats 2000000 in
set_option maxRecDepth 100000 in
theorem cut_any (wb B : Nat) (wv : Value) (ws : List Wd) (n : Nat) (w : World) (H : Held w B (wRes wb wv ws)) (hn : n ≤ ws.length) (hws : ws.length ≤ 1000) :
    Calls Tryz.prog 126 #[.pointer (some ⟨wb, 0, none⟩), .int .i64 n] w fun e w' => e = .returned (.bool true) ∧ ∃ wv', Turns w B (wRes wb wv ws) (wRes wb wv' (ws.take n)) w' := by
  obtain ⟨A, c, rfl⟩ := (w_row H).slice
  have k := w_blk H
  have c0 : w.cell? ⟨wb, 0, none⟩ = some (.slice A ws.length c) := k.cell 0
  have f0 := k.frozen 0
  have hr := w_row H
  have hcap := row_cap hr
  have hrt := hr.take hn
  rw [wdsV_take] at hrt
  have N1 := Turns.turn_at [.st wb 59 #[.slice A ws.length c]] [] H hrt room_take
  have N2 := N1.trans (Turns.set N1.held 0 (.slice A n c))
  have hl : (ws.take n).length = n := by rw [List.length_take]; omega
  have N3 : Turns w B (wRes wb (.slice A ws.length c) ws) (wRes wb (.slice A n c) (ws.take n)) (w.setCell ⟨wb, 0, none⟩ (.slice A n c)) := by
    unfold wRes
    rw [hl]
    exact N2
  have N := Lib.hid N3
  have i1 : (n : Int) ≤ (ws.length : Int) := by omega
  have i2 : (n : Int) ≤ (c : Int) := by omega
  have i3 : n ≤ c := by omega
  have d1 : decide (ws.length < n) = false := by simpa using hn
  have i4 : ¬ (ws.length : Int) < (n : Int) := by omega
  clear k N1 N2 N3 hrt hr H
  generalize ws.length = L at *
  go_enter Tryz.func126, Tryz.ntmps126
  go_wp2_with fail
  go_ret
  exact ⟨rfl, _, N.out⟩
theorem set_wds (ws : List Wd) (b : Bool) (i : Nat) (h : i < ws.length) : (wdsV ws).set (i * 4 + 3) (.bool b) = wdsV (ws.set i { ws.getD i wd0 with imm := b }) := by
  induction ws generalizing i with
  | nil => simp at h
  | cons x r ih =>
    have e : ∀ (y : Wd) (l : List Wd), wdsV (y :: l) = wdV y ++ wdsV l := fun _ _ => rfl
    cases i with
    | zero => rfl
    | succ i =>
      rw [List.set_cons_succ, e, e, List.set_append, if_neg (by simp [wdV]; omega)]
      have := ih i (by simpa using h)
      rw [show (i + 1) * 4 + 3 - (wdV x).length = i * 4 + 3 by simp [wdV]; omega, this]
      rfl
set_option maxHeartbeats 2000000 in
set_option maxRecDepth 100000 in
theorem immediate_yes (wb B : Nat) (wv : Value) (ws : List Wd) (w : World) (H : Held w B (wRes wb wv ws)) (hn : 0 < ws.length) (hws : ws.length ≤ 1000) :
    Calls Tryz.prog 85 #[.pointer (some ⟨wb, 0, none⟩)] w fun e w' => e = .returned (.bool true) ∧ Turns w B (wRes wb wv ws) (wRes wb wv (ws.set (ws.length - 1) { ws.getD (ws.length - 1) wd0 with imm := true })) w' := by
  have HL := Lib.hid (len_any wb B wv ws w H)
  obtain ⟨g, c, rfl, hcap, hbg, hg, hcell, hfz⟩ := (w_row H).form hn
  have k := w_blk H
  have c0 : w.cell? ⟨wb, 0, none⟩ = some (.slice (some ⟨g, 0, none⟩) ws.length (c + 1)) := k.cell 0
  have hlt : ws.length - 1 < ws.length := by omega
  have x3 := (hcell ((ws.length - 1) * 4 + 3) (by omega)).trans (wdsV_get ws (ws.length - 1) hlt 3 (by omega))
  have f3 := hfz ((ws.length - 1) * 4 + 3)
  simp only [wdV, List.getElem?_cons_zero, List.getElem?_cons_succ] at x3
  have N1 : Turns w B (wRes wb (.slice (some ⟨g, 0, none⟩) ws.length (c + 1)) ws) (wRes wb (.slice (some ⟨g, 0, none⟩) ws.length (c + 1)) (ws.set (ws.length - 1) { ws.getD (ws.length - 1) wd0 with imm := true })) (w.setCell ⟨g, (ws.length - 1) * 4 + 3, none⟩ (.bool true)) := by
    have N := Turns.store_at (i := (ws.length - 1) * 4 + 3) (u := .bool true) [.st wb 59 #[.slice (some ⟨g, 0, none⟩) ws.length (c + 1)]] [] H (by omega)
    rw [set_wds ws true _ hlt] at N
    unfold wRes
    rw [List.length_set]
    exact N
  have N := Lib.hid N1
  obtain ⟨d, hd⟩ : ∃ d, ws.length = d + 1 := ⟨ws.length - 1, by omega⟩
  have hd1 : ws.length - 1 = d := by omega
  rw [hd1] at x3 f3 N
  rw [hd1]
  have HL2 : Hid (Calls Tryz.prog 124 #[.pointer (some ⟨wb, 0, none⟩)] w fun e w' => e = .returned (.int .i64 ((d + 1 : Nat) : Int)) ∧ w = w') := by rw [← hd]; exact HL.out
  rw [hd] at c0
  have hd1000 : d ≤ 1000 := by omega
  have hw1 : IntKind.i64.wrap (d : Int) = (d : Int) := by clear N HL HL2; rw [IntKind.wrap_i64]; omega
  have hw2 : IntKind.i64.wrap ((d : Int) + 1 - 1) = (d : Int) := by clear N HL HL2; rw [IntKind.wrap_i64]; omega
  have hdc : d + 1 ≤ c + 1 := by omega
  have hq : ¬ ((d : Int) + 1 ≤ (d : Int)) := by clear N HL HL2; omega
  generalize ws.getD d wd0 = y at *
  clear N1 k hcell hfz H hlt hd hd1 hn hcap hws HL
  go_enter Tryz.func85, Tryz.ntmps85
  go_wp2_with fail
  refine HL2.out.mono ?_
  rintro e w1 ⟨rfl, rfl⟩
  go_wp2_with fail
  have HS0 : (fun W : World => W.cell? ⟨wb, 0, none⟩ = some (.slice (some ⟨g, 0, none⟩) (d + 1) (c + 1))) w.drew := c0
  have y3 : w.drew.cell? ⟨g, d * 4 + 3, none⟩ = _ := x3
  have z3 : w.drew.frozen? ⟨g, d * 4 + 3, none⟩ = _ := f3
  refine Ph.wp_region_U 10 (fun W : World => W.cell? ⟨wb, 0, none⟩ = some (.slice (some ⟨g, 0, none⟩) (d + 1) (c + 1))) (by kernel_rfl) ?_
  change Ph.wpU _ _ _ _ _ _ 13 #[false, false, false, false, false, false, false, false, false, false, false, false, false] _ _
  refine Ph.U_take (i := 0) (oi := { dst := some 6, op := .move (.tmp 0), type := 42, pos := "words.go:103", after := #[], guard := none }) (v := .pointer (some ⟨wb, 0, none⟩)) rfl (by kernel_rfl) (by kernel_rfl) (by kernel_rfl) (by kernel_rfl) (fun _ _ _ h => h) (Or.inl ⟨by rfl, ?_⟩) (by assumption) ?_
  · intro W hSw; (try dsimp only at hSw); go_simp
  simp only [Act.put, List.setIfInBounds_toArray, List.set_cons_zero, List.set_cons_succ]
  refine Ph.U_take (i := 1) (oi := { dst := some 7, op := .nilCheck (.tmp 6), type := 0, pos := "words.go:103", after := #[{ on := 0, ground := .data }], guard := none }) (v := .pointer (some ⟨wb, 0, none⟩)) rfl (by kernel_rfl) (by kernel_rfl) (by kernel_rfl) (by kernel_rfl) (fun _ _ _ h => h) (Or.inl ⟨by rfl, ?_⟩) (by assumption) ?_
  · intro W hSw; (try dsimp only at hSw); go_simp
  simp only [Act.put, List.setIfInBounds_toArray, List.set_cons_zero, List.set_cons_succ]
  refine Ph.U_take (i := 2) (oi := { dst := some 8, op := .fieldAddr 59 (.tmp 7) 0, type := 0, pos := "words.go:103", after := #[{ on := 1, ground := .data }], guard := none }) (v := .pointer (some ⟨wb, 0, none⟩)) rfl (by kernel_rfl) (by kernel_rfl) (by kernel_rfl) (by kernel_rfl) (fun _ _ _ h => h) (Or.inl ⟨by rfl, ?_⟩) (by assumption) ?_
  · intro W hSw; (try dsimp only at hSw); go_simp
  simp only [Act.put, List.setIfInBounds_toArray, List.set_cons_zero, List.set_cons_succ]
  refine Ph.U_take (i := 3) (oi := { dst := some 9, op := .load 57 (.tmp 8), type := 57, pos := "words.go:103", after := #[{ on := 2, ground := .data }], guard := none }) (v := .slice (some ⟨g, 0, none⟩) (d + 1) (c + 1)) rfl (by kernel_rfl) (by kernel_rfl) (by kernel_rfl) (by kernel_rfl) (fun _ _ _ h => h) (Or.inl ⟨by rfl, ?_⟩) (by assumption) ?_
  · intro W hSw; (try dsimp only at hSw); go_simp
  simp only [Act.put, List.setIfInBounds_toArray, List.set_cons_zero, List.set_cons_succ]
  refine Ph.U_take (i := 4) (oi := { dst := some 10, op := .move (.tmp 0), type := 42, pos := "words.go:103", after := #[], guard := none }) (v := .pointer (some ⟨wb, 0, none⟩)) rfl (by kernel_rfl) (by kernel_rfl) (by kernel_rfl) (by kernel_rfl) (fun _ _ _ h => h) (Or.inl ⟨by rfl, ?_⟩) (by assumption) ?_
  · intro W hSw; (try dsimp only at hSw); go_simp
  simp only [Act.put, List.setIfInBounds_toArray, List.set_cons_zero, List.set_cons_succ]
  refine Ph.U_take (i := 5) (oi := { dst := some 11, op := .nilCheck (.tmp 10), type := 0, pos := "words.go:103", after := #[{ on := 4, ground := .data }], guard := none }) (v := .pointer (some ⟨wb, 0, none⟩)) rfl (by kernel_rfl) (by kernel_rfl) (by kernel_rfl) (by kernel_rfl) (fun _ _ _ h => h) (Or.inl ⟨by rfl, ?_⟩) (by assumption) ?_
  · intro W hSw; (try dsimp only at hSw); go_simp
  simp only [Act.put, List.setIfInBounds_toArray, List.set_cons_zero, List.set_cons_succ]
  refine Ph.U_take (i := 6) (oi := { dst := some 12, op := .fieldAddr 59 (.tmp 11) 0, type := 0, pos := "words.go:103", after := #[{ on := 5, ground := .data }], guard := none }) (v := .pointer (some ⟨wb, 0, none⟩)) rfl (by kernel_rfl) (by kernel_rfl) (by kernel_rfl) (by kernel_rfl) (fun _ _ _ h => h) (Or.inl ⟨by rfl, ?_⟩) (by assumption) ?_
  · intro W hSw; (try dsimp only at hSw); go_simp
  simp only [Act.put, List.setIfInBounds_toArray, List.set_cons_zero, List.set_cons_succ]
  refine Ph.U_take (i := 7) (oi := { dst := some 13, op := .load 57 (.tmp 12), type := 57, pos := "words.go:103", after := #[{ on := 6, ground := .data }], guard := none }) (v := .slice (some ⟨g, 0, none⟩) (d + 1) (c + 1)) rfl (by kernel_rfl) (by kernel_rfl) (by kernel_rfl) (by kernel_rfl) (fun _ _ _ h => h) (Or.inl ⟨by rfl, ?_⟩) (by assumption) ?_
  · intro W hSw; (try dsimp only at hSw); go_simp
  simp only [Act.put, List.setIfInBounds_toArray, List.set_cons_zero, List.set_cons_succ]
  refine Ph.U_take (i := 8) (oi := { dst := some 14, op := .call { callee := .builtin Builtin.len, args := #[.tmp 13], argTypes := #[57] }, type := 3, pos := "words.go:103", after := #[{ on := 7, ground := .data }], guard := none }) (v := .int .i64 ((d : Int) + 1)) rfl (by kernel_rfl) (by kernel_rfl) (by kernel_rfl) (by kernel_rfl) (fun _ _ _ h => h) (Or.inl ⟨by rfl, ?_⟩) (by assumption) ?_
  · intro W hSw; (try dsimp only at hSw); go_simp
  simp only [Act.put, List.setIfInBounds_toArray, List.set_cons_zero, List.set_cons_succ]
  refine Ph.U_take (i := 9) (oi := { dst := some 15, op := .binOp BinOp.sub 3 (.tmp 14) (.const (Value.int IntKind.i64 1)) 3, type := 3, pos := "words.go:103", after := #[{ on := 8, ground := .data }], guard := none }) (v := .int .i64 (d : Int)) rfl (by kernel_rfl) (by kernel_rfl) (by kernel_rfl) (by kernel_rfl) (fun _ _ _ h => h) (Or.inl ⟨by rfl, ?_⟩) (by assumption) ?_
  · intro W hSw; (try dsimp only at hSw); go_simp
  simp only [Act.put, List.setIfInBounds_toArray, List.set_cons_zero, List.set_cons_succ]
  refine Ph.U_pure (i := 10) (oi := { dst := some 16, op := .indexAddr 57 (.tmp 9) (.tmp 15), type := 0, pos := "words.go:103", after := #[{ on := 3, ground := .data }, { on := 9, ground := .data }, { on := 0, ground := .phase }, { on := 1, ground := .phase }, { on := 2, ground := .phase }, { on := 3, ground := .phase }, { on := 4, ground := .phase }, { on := 5, ground := .phase }, { on := 6, ground := .phase }, { on := 7, ground := .phase }, { on := 8, ground := .phase }, { on := 9, ground := .phase }], guard := none }) (v := .pointer (some ⟨g, d * 4, none⟩)) rfl (by kernel_rfl) (by kernel_rfl) (by kernel_rfl) (by decide) (fun _ _ _ h => h) (Or.inl ⟨by rfl, ?_⟩) ?_
  · intro W hSw; (try dsimp only at hSw); go_simp
  simp only [Act.put, List.setIfInBounds_toArray, List.set_cons_zero, List.set_cons_succ]
  refine Ph.U_pure (i := 11) (oi := { dst := some 17, op := .fieldAddr 62 (.tmp 16) 3, type := 0, pos := "words.go:103", after := #[{ on := 10, ground := .data }, { on := 0, ground := .phase }, { on := 1, ground := .phase }, { on := 2, ground := .phase }, { on := 3, ground := .phase }, { on := 4, ground := .phase }, { on := 5, ground := .phase }, { on := 6, ground := .phase }, { on := 7, ground := .phase }, { on := 8, ground := .phase }, { on := 9, ground := .phase }], guard := none }) (v := .pointer (some ⟨g, d * 4 + 3, none⟩)) rfl (by kernel_rfl) (by kernel_rfl) (by kernel_rfl) (by decide) (fun _ _ _ h => h) (Or.inl ⟨by rfl, ?_⟩) ?_
  · intro W hSw; (try dsimp only at hSw); go_simp
  simp only [Act.put, List.setIfInBounds_toArray, List.set_cons_zero, List.set_cons_succ]
  have N' : Hid (Turns w B _ _ (w.drew.setCell ⟨g, d * 4 + 3, none⟩ (.bool true))) := N.out.drew
  refine Ph.U_ready (rs := [12]) (by kernel_rfl) (by simp) ?_
  refine Ph.AllReadyU.cons rfl (fun K hK => ?_) Ph.AllReadyU.nil
  go_simp
  refine hK.out _ _ (fun h => absurd h (by decide)) ?_
  clear hK K
  simp only [Act.put, List.setIfInBounds_toArray, List.set_cons_zero, List.set_cons_succ]
  refine Ph.U_done (by kernel_rfl) ?_ _
  go_wp2
  go_ret
  exact ⟨rfl, N'.out⟩
end Go.Proofs.YtompdfpjmdnhoabGreatDoor.Ou
namespace Go.Proofs.YtompdfpjmdnhoabGreatDoor.Ou
open Go.RowKit Go.Proofs.YtompdfpjmdnhoabGreatDoor.Rs
theorem infoWord : (Tryz.prog.info? 62).map (fun i => (i.zero, i.size, i.bytes)) = some (some (.agg #[.string ⟨#[]⟩, .int .i64 0, .int .i64 0, .bool false]), 4, 40) := by kernel_rfl
theorem add_ok {ws : List Wd} {x : Wd} (hr : rightN x.name = true) (hl : ws.length < 200) : add ws x = (0, ws ++ [x]) := by unfold add; rw [if_neg (by rw [hr]; simp), if_neg (by omega)]
set_option maxHeartbeats 4000000 in
set_option maxRecDepth 100000 in
theorem add_yes (wb B : Nat) (wv : Value) (ws : List Wd) (x : Wd) (w : World) (H : Held w B (wRes wb wv ws)) (hB : B ≤ w.heap.size) (hr : rightN x.name = true) (hl : ws.length < 200) (hx : x.name.size ≤ 100000) :
    Calls Tryz.prog 26 #[.pointer (some ⟨wb, 0, none⟩), .agg (wdC x)] w fun e w' => e = .returned (.int .i64 0) ∧ ∃ wv', Turns w B (wRes wb wv ws) (wRes wb wv' (ws ++ [x])) w' := by
  obtain ⟨A, c, rfl⟩ := (w_row H).slice
  have N1 := Lib.hid (Turns.lone H (.cells (wdC x) 62))
  have D1 := Lib.hid (Blk.new w 62 (wdC x))
  have HR := Lib.hid (fun W => right_any x.name W hx)
  rw [hr] at HR
  have d0 : (w.alloc (.cells (wdC x) 62)).cell? ⟨wb, 0, none⟩ = some (.slice A ws.length c) := (w_blk N1.out.held).cell 0
  have hz : w.heap.size < (w.alloc (.cells (wdC x) 62)).heap.size := by simp
  have hd : decide (200 ≤ ws.length) = false := by simpa using hl
  have hi : ¬ (200 : Int) ≤ (ws.length : Int) := by omega
  unfold wdC at *
  have e0 := D1.out.cell 0; have e1 := D1.out.cell 1; have e2 := D1.out.cell 2; have e3 := D1.out.cell 3
  simp only [List.getElem?_toArray, List.getElem?_cons_zero, List.getElem?_cons_succ] at e0 e1 e2 e3
  have HH := Lib.hid H
  clear H
  go_enter Tryz.func26, Tryz.ntmps26
  go_wp2_with fail
  refine (HR.out _).mono ?_
  rintro e w2 ⟨rfl, rfl⟩
  go_wp2_with fail
  generalize hw1 : w.alloc (.cells #[.string x.name, .int .i64 x.xt, .int .i64 x.op, .bool x.imm] 62) = w1 at *
  have HS0 : (fun W : World => W.cell? ⟨wb, 0, none⟩ = some (.slice A ws.length c) ∧ W.cell? ⟨w.heap.size, 0, none⟩ = some (.string x.name) ∧ W.cell? ⟨w.heap.size, 1, none⟩ = some (.int .i64 x.xt) ∧ W.cell? ⟨w.heap.size, 2, none⟩ = some (.int .i64 x.op) ∧ W.cell? ⟨w.heap.size, 3, none⟩ = some (.bool x.imm)) w1.drew := ⟨d0, e0, e1, e2, e3⟩
  clear d0 e0 e1 e2 e3
  refine Ph.wp_region_U 8 (fun W : World => W.cell? ⟨wb, 0, none⟩ = some (.slice A ws.length c) ∧ W.cell? ⟨w.heap.size, 0, none⟩ = some (.string x.name) ∧ W.cell? ⟨w.heap.size, 1, none⟩ = some (.int .i64 x.xt) ∧ W.cell? ⟨w.heap.size, 2, none⟩ = some (.int .i64 x.op) ∧ W.cell? ⟨w.heap.size, 3, none⟩ = some (.bool x.imm)) (by kernel_rfl) ?_
  change Ph.wpU _ _ _ _ _ _ 11 #[false, false, false, false, false, false, false, false, false, false, false] _ _
  refine Ph.U_take (i := 0) (oi := { dst := some 21, op := .move (.tmp 0), type := 42, pos := "words.go:81", after := #[], guard := none }) (v := .pointer (some ⟨wb, 0, none⟩)) rfl (by kernel_rfl) (by kernel_rfl) (by kernel_rfl) (by kernel_rfl) (fun _ _ _ h => h) (Or.inl ⟨by rfl, ?_⟩) (by assumption) ?_
  · intro W hSw; (try dsimp only at hSw); go_simp
  simp only [Act.put, List.setIfInBounds_toArray, List.set_cons_zero, List.set_cons_succ]
  refine Ph.U_take (i := 1) (oi := { dst := some 22, op := .move (.tmp 0), type := 42, pos := "words.go:81", after := #[], guard := none }) (v := .pointer (some ⟨wb, 0, none⟩)) rfl (by kernel_rfl) (by kernel_rfl) (by kernel_rfl) (by kernel_rfl) (fun _ _ _ h => h) (Or.inl ⟨by rfl, ?_⟩) (by assumption) ?_
  · intro W hSw; (try dsimp only at hSw); go_simp
  simp only [Act.put, List.setIfInBounds_toArray, List.set_cons_zero, List.set_cons_succ]
  refine Ph.U_take (i := 2) (oi := { dst := some 23, op := .nilCheck (.tmp 22), type := 0, pos := "words.go:81", after := #[{ on := 1, ground := .data }], guard := none }) (v := .pointer (some ⟨wb, 0, none⟩)) rfl (by kernel_rfl) (by kernel_rfl) (by kernel_rfl) (by kernel_rfl) (fun _ _ _ h => h) (Or.inl ⟨by rfl, ?_⟩) (by assumption) ?_
  · intro W hSw; (try dsimp only at hSw); go_simp
  simp only [Act.put, List.setIfInBounds_toArray, List.set_cons_zero, List.set_cons_succ]
  refine Ph.U_take (i := 3) (oi := { dst := some 24, op := .fieldAddr 59 (.tmp 23) 0, type := 0, pos := "words.go:81", after := #[{ on := 2, ground := .data }], guard := none }) (v := .pointer (some ⟨wb, 0, none⟩)) rfl (by kernel_rfl) (by kernel_rfl) (by kernel_rfl) (by kernel_rfl) (fun _ _ _ h => h) (Or.inl ⟨by rfl, ?_⟩) (by assumption) ?_
  · intro W hSw; (try dsimp only at hSw); go_simp
  simp only [Act.put, List.setIfInBounds_toArray, List.set_cons_zero, List.set_cons_succ]
  refine Ph.U_take (i := 4) (oi := { dst := some 25, op := .load 57 (.tmp 24), type := 57, pos := "words.go:81", after := #[{ on := 3, ground := .data }], guard := none }) (v := .slice A ws.length c) rfl (by kernel_rfl) (by kernel_rfl) (by kernel_rfl) (by kernel_rfl) (fun _ _ _ h => h) (Or.inl ⟨by rfl, ?_⟩) (by assumption) ?_
  · intro W hSw; (try dsimp only at hSw); go_simp
  simp only [Act.put, List.setIfInBounds_toArray, List.set_cons_zero, List.set_cons_succ]
  refine Ph.U_take (i := 5) (oi := { dst := some 26, op := .load 62 (.tmp 3), type := 62, pos := "words.go:81", after := #[], guard := none }) (v := .agg #[.string x.name, .int .i64 x.xt, .int .i64 x.op, .bool x.imm]) rfl (by kernel_rfl) (by kernel_rfl) (by kernel_rfl) (by kernel_rfl) (fun _ _ _ h => h) (Or.inl ⟨by rfl, ?_⟩) (by assumption) ?_
  · intro W hSw
    obtain ⟨q0, q1, q2, q3, q4⟩ := hSw
    go_simp
  simp only [Act.put, List.setIfInBounds_toArray, List.set_cons_zero, List.set_cons_succ]
  refine Ph.U_ready (rs := [6]) (by kernel_rfl) (by simp) ?_
  refine Ph.AllReadyU.cons rfl (fun K hK => ?_) Ph.AllReadyU.nil
  go_simp
  have N2 := Lib.hid (N1.out.drew.trans (Turns.lone N1.out.drew.held (.cells #[.string x.name, .int .i64 x.xt, .int .i64 x.op, .bool x.imm] 62)))
  have K2 : Hid (Blk (w1.drew.alloc (.cells #[.string x.name, .int .i64 x.xt, .int .i64 x.op, .bool x.imm] 62)) w1.drew.heap.size 62 #[.string x.name, .int .i64 x.xt, .int .i64 x.op, .bool x.imm]) := Blk.new _ _ _
  have D2 := Lib.hid (D1.out.drew.alloc (.cells #[.string x.name, .int .i64 x.xt, .int .i64 x.op, .bool x.imm] 62))
  have HS2 : (fun W : World => W.cell? ⟨wb, 0, none⟩ = some (.slice A ws.length c) ∧ W.cell? ⟨w.heap.size, 0, none⟩ = some (.string x.name) ∧ W.cell? ⟨w.heap.size, 1, none⟩ = some (.int .i64 x.xt) ∧ W.cell? ⟨w.heap.size, 2, none⟩ = some (.int .i64 x.op) ∧ W.cell? ⟨w.heap.size, 3, none⟩ = some (.bool x.imm)) (w1.drew.alloc (.cells #[.string x.name, .int .i64 x.xt, .int .i64 x.op, .bool x.imm] 62)) := ⟨(w_blk N2.out.held).cell 0, D2.out.cell 0, D2.out.cell 1, D2.out.cell 2, D2.out.cell 3⟩
  refine hK.out _ _ (fun _ => HS2) ?_
  clear hK K
  simp only [Act.put, List.setIfInBounds_toArray, List.set_cons_zero, List.set_cons_succ]
  obtain ⟨i0, hi0, hz0, hz1, hz2⟩ := info_parts infoWord
  have hrd : Reads (w1.drew.alloc (.cells #[.string x.name, .int .i64 x.xt, .int .i64 x.op, .bool x.imm] 62)) (w1.drew.alloc (.cells #[.string x.name, .int .i64 x.xt, .int .i64 x.op, .bool x.imm] 62)).heap.size 4 (some ⟨w1.drew.heap.size, 0, none⟩) 1 (wdV x) := by
    refine ⟨rfl, fun _ => ⟨_, rfl, by simp, fun j u hj => ?_⟩⟩
    rw [Go.WideShapes.add_plain, World.cell?, heap_alloc_new]
    simpa [wdV] using hj
  refine Ph.U_ready (rs := [7]) (by kernel_rfl) (by simp) ?_
  refine Ph.AllReadyU.cons rfl (fun K hK => ?_) Ph.AllReadyU.nil
  rw [if_pos (by rfl)]
  refine wp_append_row _ _ _ 57 rfl B 62 i0 (.agg #[.string ⟨#[]⟩, .int .i64 0, .int .i64 0, .bool false]) 4 40 Tryz.underlying57 hi0 hz0 hz1 hz2 rfl (by decide) (.slice A ws.length c) ws.length (wdsV ws) rfl (w_row N2.out.held) (w1.drew.alloc (.cells #[.string x.name, .int .i64 x.xt, .int .i64 x.op, .bool x.imm] 62)).heap.size (some ⟨w1.drew.heap.size, 0, none⟩) 1 1 (wdV x) rfl hrd (by intro u hu; simp [wdV] at hu; rcases hu with rfl | rfl | rfl | rfl <;> rfl) (by unfold maxLen; omega) (by omega) (Nat.le_trans hB N2.out.size) ?_
  intro v' w3 hrow hg hv
  obtain ⟨VA, vc, rfl⟩ := hrow.slice
  have N3 := Lib.hid (N2.out.trans (Turns.grow_at [.st wb 59 #[.slice A ws.length c]] [] N2.out.held hrow hg hv))
  have hne : some w.heap.size ≠ roomBlock (.slice A ws.length c) := fun e => by have := ((w_row HH.out).lt w.heap.size e.symm).2; omega
  have D3 := D2.out.grown hg hne
  have K3 : Hid (Blk w3 wb 59 #[.slice A ws.length c]) := N3.out.held.blk (by simp)
  have HS3 : (fun W : World => W.cell? ⟨wb, 0, none⟩ = some (.slice A ws.length c) ∧ W.cell? ⟨w.heap.size, 0, none⟩ = some (.string x.name) ∧ W.cell? ⟨w.heap.size, 1, none⟩ = some (.int .i64 x.xt) ∧ W.cell? ⟨w.heap.size, 2, none⟩ = some (.int .i64 x.op) ∧ W.cell? ⟨w.heap.size, 3, none⟩ = some (.bool x.imm)) w3 := ⟨K3.out.cell 0, D3.cell 0, D3.cell 1, D3.cell 2, D3.cell 3⟩
  refine hK.out _ _ (fun _ => HS3) ?_
  clear hK K
  simp only [Act.put, List.setIfInBounds_toArray, List.set_cons_zero, List.set_cons_succ]
  refine Ph.U_pure (i := 8) (oi := { dst := some 29, op := .nilCheck (.tmp 21), type := 0, pos := "words.go:81", after := #[{ on := 0, ground := .data }, { on := 0, ground := .phase }, { on := 1, ground := .phase }, { on := 2, ground := .phase }, { on := 3, ground := .phase }, { on := 4, ground := .phase }, { on := 5, ground := .phase }, { on := 6, ground := .phase }, { on := 7, ground := .phase }], guard := none }) (v := .pointer (some ⟨wb, 0, none⟩)) rfl (by kernel_rfl) (by kernel_rfl) (by kernel_rfl) (by decide) (fun _ _ _ h => h) (Or.inl ⟨by rfl, ?_⟩) ?_
  · intro W hSw; (try dsimp only at hSw); go_simp
  simp only [Act.put, List.setIfInBounds_toArray, List.set_cons_zero, List.set_cons_succ]
  refine Ph.U_pure (i := 9) (oi := { dst := some 30, op := .fieldAddr 59 (.tmp 29) 0, type := 0, pos := "words.go:81", after := #[{ on := 8, ground := .data }, { on := 0, ground := .phase }, { on := 1, ground := .phase }, { on := 2, ground := .phase }, { on := 3, ground := .phase }, { on := 4, ground := .phase }, { on := 5, ground := .phase }, { on := 6, ground := .phase }, { on := 7, ground := .phase }], guard := none }) (v := .pointer (some ⟨wb, 0, none⟩)) rfl (by kernel_rfl) (by kernel_rfl) (by kernel_rfl) (by decide) (fun _ _ _ h => h) (Or.inl ⟨by rfl, ?_⟩) ?_
  · intro W hSw; (try dsimp only at hSw); go_simp
  simp only [Act.put, List.setIfInBounds_toArray, List.set_cons_zero, List.set_cons_succ]
  have g0 : w3.cell? ⟨wb, 0, none⟩ = some (.slice A ws.length c) := K3.out.cell 0
  have z0 := K3.out.frozen 0
  have N4 := N3.out.trans (Turns.set_at [] [.row 62 4 (.slice VA (ws.length + 1) vc) (ws.length + 1) (wdsV ws ++ wdV x)] N3.out.held 0 (.slice VA (ws.length + 1) vc))
  have N5 : Hid (Turns w B (wRes wb (.slice A ws.length c) ws) (wRes wb (.slice VA (ws.length + 1) vc) (ws ++ [x])) (w3.setCell ⟨wb, 0, none⟩ (.slice VA (ws.length + 1) vc))) := by
    unfold wRes at N4 ⊢
    rw [wdsV_append, List.length_append]
    have e : wdsV [x] = wdV x := by simp [wdsV]
    rw [e]
    exact N4
  clear N4 N3 N2 N1 D1 D2 D3 HS3 HS2 HS0 hrow hg hv K2
  refine Ph.U_ready (rs := [10]) (by kernel_rfl) (by simp) ?_
  refine Ph.AllReadyU.cons rfl (fun K hK => ?_) Ph.AllReadyU.nil
  go_simp
  refine hK.out _ _ (fun h => absurd h (by decide)) ?_
  clear hK K
  simp only [Act.put, List.setIfInBounds_toArray, List.set_cons_zero, List.set_cons_succ]
  refine Ph.U_done (by kernel_rfl) ?_ _
  go_wp2
  go_ret
  exact ⟨rfl, _, N5.out⟩
set_option maxHeartbeats 4000000 in
set_option maxRecDepth 100000 in
theorem add_full (wb B : Nat) (wv : Value) (ws : List Wd) (x : Wd) (w : World) (H : Held w B (wRes wb wv ws)) (hr : rightN x.name = true) (hl : 200 ≤ ws.length) (hx : x.name.size ≤ 100000) :
    Calls Tryz.prog 26 #[.pointer (some ⟨wb, 0, none⟩), .agg (wdC x)] w fun e w' => e = .returned (.int .i64 (-8)) ∧ Below w.heap.size w w' := by
  obtain ⟨A, c, rfl⟩ := (w_row H).slice
  have N1 := Lib.hid (Turns.lone H (.cells (wdC x) 62))
  have D1 := Lib.hid (Blk.new w 62 (wdC x))
  have HR := Lib.hid (fun W => right_any x.name W hx)
  rw [hr] at HR
  have d0 : (w.alloc (.cells (wdC x) 62)).cell? ⟨wb, 0, none⟩ = some (.slice A ws.length c) := (w_blk N1.out.held).cell 0
  have hb : Below w.heap.size w (w.alloc (.cells (wdC x) 62)) := (Below.refl _ _).alloc (Nat.le_refl _) _
  have Hb := Lib.hid hb
  have hd : decide (200 ≤ ws.length) = true := by simpa using hl
  have hi : (200 : Int) ≤ (ws.length : Int) := by omega
  unfold wdC at *
  have e0 := D1.out.cell 0
  simp only [List.getElem?_toArray, List.getElem?_cons_zero, List.getElem?_cons_succ] at e0
  clear H hb
  go_enter Tryz.func26, Tryz.ntmps26
  go_wp2_with fail
  refine (HR.out _).mono ?_
  rintro e w2 ⟨rfl, rfl⟩
  go_wp2_with fail
  go_ret
  exact ⟨rfl, Hb.out⟩
end Go.Proofs.YtompdfpjmdnhoabGreatDoor.Ou
namespace Go.Proofs.YtompdfpjmdnhoabGreatDoor.Ou
open Go.RowKit Go.Proofs.YtompdfpjmdnhoabGreatDoor.Rs
theorem ent_arg (xs : Array Value) (w : World) : (callFunc 34 xs).run Tryz.prog w = .ok (.enter 34 xs) w := enters_of Tryz.func34 (by kernel_rfl) rfl xs w
theorem ent_plain (xs : Array Value) (w : World) : (callFunc 35 xs).run Tryz.prog w = .ok (.enter 35 xs) w := enters_of Tryz.func35 (by kernel_rfl) rfl xs w
theorem ent_right (xs : Array Value) (w : World) : (callFunc 48 xs).run Tryz.prog w = .ok (.enter 48 xs) w := enters_of Tryz.func48 (by kernel_rfl) rfl xs w
theorem has_first : Tryz.f25.body.isSome = true := by kernel_rfl
theorem has_plain : Tryz.f35.body.isSome = true := by kernel_rfl
theorem at_first (k : Int) : (Ff.start Tryz.f25 #[.int .i64 k]).callee = some (34, #[.int .i64 k]) := by kernel_rfl
abbrev Is (b : Bool) (w : World) (e : Ending) (w' : World) : Prop := e = .returned (.bool b) ∧ w = w'
theorem first_of (k : Int) (a b : Bool) (ha : Mc.hasArg k = a) (h1 : (Ff.next (.bool a) (Ff.start Tryz.f25 #[.int .i64 k])).out Tryz.f25 = some (.bool b)) (w : World) :
    Calls Tryz.prog 25 #[.int .i64 k] w (Is b w) :=
  Ff.one Tryz.func25 has_first (at_first k) ent_arg h1 (by rw [← ha]; exact Mc.arg_op k w)
theorem first_of2 (k : Int) (b : Bool) (ha : Mc.hasArg k = false) (h1 : (Ff.next (.bool false) (Ff.start Tryz.f25 #[.int .i64 k])).callee = some (35, #[.int .i64 k]))
    (h2 : (Ff.next (.bool b) (Ff.next (.bool false) (Ff.start Tryz.f25 #[.int .i64 k]))).out Tryz.f25 = some (.bool b)) (w : World) (hp : Calls Tryz.prog 35 #[.int .i64 k] w (Is b w)) :
    Calls Tryz.prog 25 #[.int .i64 k] w (Is b w) :=
  Ff.two Tryz.func25 has_first (at_first k) ent_arg (by rw [← ha]; exact Mc.arg_op k w) h1 ent_plain h2 hp
theorem plain_of (k : Int) (b : Bool) (h : (Ff.start Tryz.f35 #[.int .i64 k]).out Tryz.f35 = some (.bool b)) (w : World) : Calls Tryz.prog 35 #[.int .i64 k] w (Is b w) :=
  Ff.none0 Tryz.func35 has_plain h
theorem plain_of2 (k : Int) (hk : Mc.isOp k = true) (h1 : (Ff.start Tryz.f35 #[.int .i64 k]).callee = some (48, #[.int .i64 k]))
    (h2 : (Ff.next (.bool true) (Ff.start Tryz.f35 #[.int .i64 k])).out Tryz.f35 = some (.bool true)) (w : World) : Calls Tryz.prog 35 #[.int .i64 k] w (Is true w) :=
  Ff.one Tryz.func35 has_plain h1 ent_right h2 (Mc.right_op k hk w)
theorem first0 (w : World) : Calls Tryz.prog 25 #[.int .i64 0] w (Is (firstB 0) w) := first_of2 0 false rfl (by kernel_rfl) (by kernel_rfl) w (plain_of 0 false (by kernel_rfl) w)
theorem first1 (w : World) : Calls Tryz.prog 25 #[.int .i64 1] w (Is (firstB 1) w) := first_of2 1 false rfl (by kernel_rfl) (by kernel_rfl) w (plain_of 1 false (by kernel_rfl) w)
theorem first2 (w : World) : Calls Tryz.prog 25 #[.int .i64 2] w (Is (firstB 2) w) := first_of 2 true false rfl (by kernel_rfl) w
theorem first3 (w : World) : Calls Tryz.prog 25 #[.int .i64 3] w (Is (firstB 3) w) := first_of 3 true false rfl (by kernel_rfl) w
theorem first4 (w : World) : Calls Tryz.prog 25 #[.int .i64 4] w (Is (firstB 4) w) := first_of 4 true false rfl (by kernel_rfl) w
theorem first5 (w : World) : Calls Tryz.prog 25 #[.int .i64 5] w (Is (firstB 5) w) := first_of 5 false false rfl (by kernel_rfl) w
theorem first6 (w : World) : Calls Tryz.prog 25 #[.int .i64 6] w (Is (firstB 6) w) := first_of2 6 true rfl (by kernel_rfl) (by kernel_rfl) w (plain_of2 6 rfl (by kernel_rfl) (by kernel_rfl) w)
theorem first7 (w : World) : Calls Tryz.prog 25 #[.int .i64 7] w (Is (firstB 7) w) := first_of2 7 true rfl (by kernel_rfl) (by kernel_rfl) w (plain_of2 7 rfl (by kernel_rfl) (by kernel_rfl) w)
theorem first8 (w : World) : Calls Tryz.prog 25 #[.int .i64 8] w (Is (firstB 8) w) := first_of2 8 true rfl (by kernel_rfl) (by kernel_rfl) w (plain_of2 8 rfl (by kernel_rfl) (by kernel_rfl) w)
theorem first9 (w : World) : Calls Tryz.prog 25 #[.int .i64 9] w (Is (firstB 9) w) := first_of2 9 true rfl (by kernel_rfl) (by kernel_rfl) w (plain_of2 9 rfl (by kernel_rfl) (by kernel_rfl) w)
theorem first10 (w : World) : Calls Tryz.prog 25 #[.int .i64 10] w (Is (firstB 10) w) := first_of2 10 true rfl (by kernel_rfl) (by kernel_rfl) w (plain_of2 10 rfl (by kernel_rfl) (by kernel_rfl) w)
theorem first11 (w : World) : Calls Tryz.prog 25 #[.int .i64 11] w (Is (firstB 11) w) := first_of2 11 true rfl (by kernel_rfl) (by kernel_rfl) w (plain_of2 11 rfl (by kernel_rfl) (by kernel_rfl) w)
theorem first12 (w : World) : Calls Tryz.prog 25 #[.int .i64 12] w (Is (firstB 12) w) := first_of2 12 true rfl (by kernel_rfl) (by kernel_rfl) w (plain_of2 12 rfl (by kernel_rfl) (by kernel_rfl) w)
theorem first13 (w : World) : Calls Tryz.prog 25 #[.int .i64 13] w (Is (firstB 13) w) := first_of2 13 true rfl (by kernel_rfl) (by kernel_rfl) w (plain_of2 13 rfl (by kernel_rfl) (by kernel_rfl) w)
theorem first14 (w : World) : Calls Tryz.prog 25 #[.int .i64 14] w (Is (firstB 14) w) := first_of2 14 true rfl (by kernel_rfl) (by kernel_rfl) w (plain_of2 14 rfl (by kernel_rfl) (by kernel_rfl) w)
theorem first15 (w : World) : Calls Tryz.prog 25 #[.int .i64 15] w (Is (firstB 15) w) := first_of2 15 true rfl (by kernel_rfl) (by kernel_rfl) w (plain_of2 15 rfl (by kernel_rfl) (by kernel_rfl) w)
theorem first16 (w : World) : Calls Tryz.prog 25 #[.int .i64 16] w (Is (firstB 16) w) := first_of2 16 true rfl (by kernel_rfl) (by kernel_rfl) w (plain_of2 16 rfl (by kernel_rfl) (by kernel_rfl) w)
theorem first17 (w : World) : Calls Tryz.prog 25 #[.int .i64 17] w (Is (firstB 17) w) := first_of2 17 true rfl (by kernel_rfl) (by kernel_rfl) w (plain_of2 17 rfl (by kernel_rfl) (by kernel_rfl) w)
theorem first18 (w : World) : Calls Tryz.prog 25 #[.int .i64 18] w (Is (firstB 18) w) := first_of2 18 true rfl (by kernel_rfl) (by kernel_rfl) w (plain_of2 18 rfl (by kernel_rfl) (by kernel_rfl) w)
theorem first19 (w : World) : Calls Tryz.prog 25 #[.int .i64 19] w (Is (firstB 19) w) := first_of2 19 true rfl (by kernel_rfl) (by kernel_rfl) w (plain_of2 19 rfl (by kernel_rfl) (by kernel_rfl) w)
theorem first20 (w : World) : Calls Tryz.prog 25 #[.int .i64 20] w (Is (firstB 20) w) := first_of2 20 true rfl (by kernel_rfl) (by kernel_rfl) w (plain_of2 20 rfl (by kernel_rfl) (by kernel_rfl) w)
theorem first21 (w : World) : Calls Tryz.prog 25 #[.int .i64 21] w (Is (firstB 21) w) := first_of2 21 true rfl (by kernel_rfl) (by kernel_rfl) w (plain_of2 21 rfl (by kernel_rfl) (by kernel_rfl) w)
theorem first22 (w : World) : Calls Tryz.prog 25 #[.int .i64 22] w (Is (firstB 22) w) := first_of2 22 true rfl (by kernel_rfl) (by kernel_rfl) w (plain_of2 22 rfl (by kernel_rfl) (by kernel_rfl) w)
theorem first23 (w : World) : Calls Tryz.prog 25 #[.int .i64 23] w (Is (firstB 23) w) := first_of2 23 true rfl (by kernel_rfl) (by kernel_rfl) w (plain_of2 23 rfl (by kernel_rfl) (by kernel_rfl) w)
theorem first24 (w : World) : Calls Tryz.prog 25 #[.int .i64 24] w (Is (firstB 24) w) := first_of2 24 true rfl (by kernel_rfl) (by kernel_rfl) w (plain_of2 24 rfl (by kernel_rfl) (by kernel_rfl) w)
theorem first25 (w : World) : Calls Tryz.prog 25 #[.int .i64 25] w (Is (firstB 25) w) := first_of2 25 true rfl (by kernel_rfl) (by kernel_rfl) w (plain_of2 25 rfl (by kernel_rfl) (by kernel_rfl) w)
theorem first26 (w : World) : Calls Tryz.prog 25 #[.int .i64 26] w (Is (firstB 26) w) := first_of2 26 true rfl (by kernel_rfl) (by kernel_rfl) w (plain_of2 26 rfl (by kernel_rfl) (by kernel_rfl) w)
theorem first27 (w : World) : Calls Tryz.prog 25 #[.int .i64 27] w (Is (firstB 27) w) := first_of2 27 true rfl (by kernel_rfl) (by kernel_rfl) w (plain_of2 27 rfl (by kernel_rfl) (by kernel_rfl) w)
theorem first28 (w : World) : Calls Tryz.prog 25 #[.int .i64 28] w (Is (firstB 28) w) := first_of2 28 true rfl (by kernel_rfl) (by kernel_rfl) w (plain_of2 28 rfl (by kernel_rfl) (by kernel_rfl) w)
theorem first29 (w : World) : Calls Tryz.prog 25 #[.int .i64 29] w (Is (firstB 29) w) := first_of2 29 true rfl (by kernel_rfl) (by kernel_rfl) w (plain_of2 29 rfl (by kernel_rfl) (by kernel_rfl) w)
theorem first30 (w : World) : Calls Tryz.prog 25 #[.int .i64 30] w (Is (firstB 30) w) := first_of2 30 true rfl (by kernel_rfl) (by kernel_rfl) w (plain_of2 30 rfl (by kernel_rfl) (by kernel_rfl) w)
theorem first31 (w : World) : Calls Tryz.prog 25 #[.int .i64 31] w (Is (firstB 31) w) := first_of2 31 true rfl (by kernel_rfl) (by kernel_rfl) w (plain_of2 31 rfl (by kernel_rfl) (by kernel_rfl) w)
theorem first32 (w : World) : Calls Tryz.prog 25 #[.int .i64 32] w (Is (firstB 32) w) := first_of2 32 true rfl (by kernel_rfl) (by kernel_rfl) w (plain_of2 32 rfl (by kernel_rfl) (by kernel_rfl) w)
theorem first33 (w : World) : Calls Tryz.prog 25 #[.int .i64 33] w (Is (firstB 33) w) := first_of2 33 true rfl (by kernel_rfl) (by kernel_rfl) w (plain_of2 33 rfl (by kernel_rfl) (by kernel_rfl) w)
theorem first34 (w : World) : Calls Tryz.prog 25 #[.int .i64 34] w (Is (firstB 34) w) := first_of2 34 true rfl (by kernel_rfl) (by kernel_rfl) w (plain_of2 34 rfl (by kernel_rfl) (by kernel_rfl) w)
theorem first35 (w : World) : Calls Tryz.prog 25 #[.int .i64 35] w (Is (firstB 35) w) := first_of2 35 true rfl (by kernel_rfl) (by kernel_rfl) w (plain_of2 35 rfl (by kernel_rfl) (by kernel_rfl) w)
theorem first36 (w : World) : Calls Tryz.prog 25 #[.int .i64 36] w (Is (firstB 36) w) := first_of 36 false false rfl (by kernel_rfl) w
theorem first37 (w : World) : Calls Tryz.prog 25 #[.int .i64 37] w (Is (firstB 37) w) := first_of 37 true false rfl (by kernel_rfl) w
theorem first38 (w : World) : Calls Tryz.prog 25 #[.int .i64 38] w (Is (firstB 38) w) := first_of 38 true false rfl (by kernel_rfl) w
theorem first39 (w : World) : Calls Tryz.prog 25 #[.int .i64 39] w (Is (firstB 39) w) := first_of 39 false false rfl (by kernel_rfl) w
theorem first40 (w : World) : Calls Tryz.prog 25 #[.int .i64 40] w (Is (firstB 40) w) := first_of 40 false false rfl (by kernel_rfl) w
theorem first41 (w : World) : Calls Tryz.prog 25 #[.int .i64 41] w (Is (firstB 41) w) := first_of2 41 true rfl (by kernel_rfl) (by kernel_rfl) w (plain_of2 41 rfl (by kernel_rfl) (by kernel_rfl) w)
theorem first42 (w : World) : Calls Tryz.prog 25 #[.int .i64 42] w (Is (firstB 42) w) := first_of2 42 true rfl (by kernel_rfl) (by kernel_rfl) w (plain_of2 42 rfl (by kernel_rfl) (by kernel_rfl) w)
theorem first43 (w : World) : Calls Tryz.prog 25 #[.int .i64 43] w (Is (firstB 43) w) := first_of2 43 true rfl (by kernel_rfl) (by kernel_rfl) w (plain_of2 43 rfl (by kernel_rfl) (by kernel_rfl) w)
theorem first44 (w : World) : Calls Tryz.prog 25 #[.int .i64 44] w (Is (firstB 44) w) := first_of2 44 true rfl (by kernel_rfl) (by kernel_rfl) w (plain_of2 44 rfl (by kernel_rfl) (by kernel_rfl) w)
theorem first45 (w : World) : Calls Tryz.prog 25 #[.int .i64 45] w (Is (firstB 45) w) := first_of 45 false true rfl (by kernel_rfl) w
theorem first46 (w : World) : Calls Tryz.prog 25 #[.int .i64 46] w (Is (firstB 46) w) := first_of 46 false true rfl (by kernel_rfl) w
theorem first47 (w : World) : Calls Tryz.prog 25 #[.int .i64 47] w (Is (firstB 47) w) := first_of 47 false false rfl (by kernel_rfl) w
theorem first_any (c : Nat) (hc : c < 48) (w : World) : Calls Tryz.prog 25 #[.int .i64 c] w (Is (firstB c) w) := by
  have : c = 0 ∨ c = 1 ∨ c = 2 ∨ c = 3 ∨ c = 4 ∨ c = 5 ∨ c = 6 ∨ c = 7 ∨ c = 8 ∨ c = 9 ∨ c = 10 ∨ c = 11 ∨ c = 12 ∨ c = 13 ∨ c = 14 ∨ c = 15 ∨ c = 16 ∨ c = 17 ∨ c = 18 ∨ c = 19 ∨ c = 20 ∨ c = 21 ∨ c = 22 ∨ c = 23 ∨ c = 24 ∨ c = 25 ∨ c = 26 ∨ c = 27 ∨ c = 28 ∨ c = 29 ∨ c = 30 ∨ c = 31 ∨ c = 32 ∨ c = 33 ∨ c = 34 ∨ c = 35 ∨ c = 36 ∨ c = 37 ∨ c = 38 ∨ c = 39 ∨ c = 40 ∨ c = 41 ∨ c = 42 ∨ c = 43 ∨ c = 44 ∨ c = 45 ∨ c = 46 ∨ c = 47 := by omega
  rcases this with rfl | rfl | rfl | rfl | rfl | rfl | rfl | rfl | rfl | rfl | rfl | rfl | rfl | rfl | rfl | rfl | rfl | rfl | rfl | rfl | rfl | rfl | rfl | rfl | rfl | rfl | rfl | rfl | rfl | rfl | rfl | rfl | rfl | rfl | rfl | rfl | rfl | rfl | rfl | rfl | rfl | rfl | rfl | rfl | rfl | rfl | rfl | rfl
  · exact first0 w
  · exact first1 w
  · exact first2 w
  · exact first3 w
  · exact first4 w
  · exact first5 w
  · exact first6 w
  · exact first7 w
  · exact first8 w
  · exact first9 w
  · exact first10 w
  · exact first11 w
  · exact first12 w
  · exact first13 w
  · exact first14 w
  · exact first15 w
  · exact first16 w
  · exact first17 w
  · exact first18 w
  · exact first19 w
  · exact first20 w
  · exact first21 w
  · exact first22 w
  · exact first23 w
  · exact first24 w
  · exact first25 w
  · exact first26 w
  · exact first27 w
  · exact first28 w
  · exact first29 w
  · exact first30 w
  · exact first31 w
  · exact first32 w
  · exact first33 w
  · exact first34 w
  · exact first35 w
  · exact first36 w
  · exact first37 w
  · exact first38 w
  · exact first39 w
  · exact first40 w
  · exact first41 w
  · exact first42 w
  · exact first43 w
  · exact first44 w
  · exact first45 w
  · exact first46 w
  · exact first47 w
def w0 (i : Nat) : List Wd := ((List.range i).filter firstB).map fun (c : Nat) => ⟨Mc.opName (c : Int), 64 + 2 * (c : Int), (c : Int), false⟩
theorem w0_end : w0 48 = words0 Mc.opName := rfl
theorem w0_yes {i : Nat} (h : firstB i = true) : w0 (i + 1) = w0 i ++ [⟨Mc.opName (i : Int), 64 + 2 * (i : Int), (i : Int), false⟩] := by
  unfold w0
  rw [List.range_succ, List.filter_append, List.map_append]
  simp [h]
theorem w0_no {i : Nat} (h : firstB i = false) : w0 (i + 1) = w0 i := by
  unfold w0
  rw [List.range_succ, List.filter_append, List.map_append]
  simp [h]
theorem w0_length (i : Nat) : (w0 i).length ≤ i := by
  unfold w0
  rw [List.length_map]
  exact Nat.le_trans (List.length_filter_le _ _) (by simp)
theorem name_right : ∀ i : Fin 48, firstB i.1 = true → rightN (Mc.opName (i.1 : Int)) = true := by decide
theorem name_small (c : Int) : (Mc.opName c).size ≤ 100000 := by
  unfold Mc.opName
  have : ∀ l ∈ Mc.opNames, l.length ≤ 100 := by decide
  show (List.toArray _).size ≤ 100000
  rw [List.size_toArray, List.getD_eq_getElem?_getD]
  cases h : Mc.opNames[c.toNat]? with
  | none => simp
  | some l => have := this l (List.mem_of_getElem? h); simp; omega
end Go.Proofs.YtompdfpjmdnhoabGreatDoor.Ou
namespace Go.Proofs.YtompdfpjmdnhoabGreatDoor.Ou
open Go.RowKit Go.Proofs.YtompdfpjmdnhoabGreatDoor.Rs
set_option maxHeartbeats 4000000 in
set_option maxRecDepth 100000 in
theorem new_any (w : World) :
    Calls Tryz.prog 18 #[] w fun e w' => ∃ wv, e = .returned (.pointer (some ⟨w.heap.size, 0, none⟩)) ∧ Held w' w.heap.size (wRes w.heap.size wv (words0 Mc.opName)) ∧ Below w.heap.size w w' := by
  have k0 := Lib.hid ((Below.refl w.heap.size w).alloc (Nat.le_refl _) (.cells #[.slice none 0 0] 59))
  have H0 : Held (w.alloc (.cells #[.slice none 0 0] 59)) w.heap.size (wRes w.heap.size (.slice none 0 0) (w0 0)) := 
    (Turns.new_st (⟨fun r hr => (by simp only [List.mem_singleton] at hr; subst hr; exact Row.nil _ _ _ _ _), by simp [blks, Res.blk, roomBlock, List.filterMap]⟩ : Held w w.heap.size [.row 62 4 (.slice none 0 0) 0 []]) (Nat.le_refl _) 59 #[.slice none 0 0]).held
  have M0 := Lib.hid H0
  clear H0
  go_enter Tryz.func18, Tryz.ntmps18
  go_wp2_with fail
  generalize hw1 : w.alloc (.cells #[.slice none 0 0] 59) = w1 at *
  clear hw1
  go_loopg [5] 48 (fun gg v5 wr => ∃ i : Nat, gg = 48 - i ∧ v5 = .int .i64 i ∧ i ≤ 48 ∧ Hid (∃ wv, Held wr w.heap.size (wRes w.heap.size wv (w0 i))) ∧ Hid (Below w.heap.size w wr))
  case atStart => exact ⟨0, rfl, rfl, by omega, ⟨_, M0.out⟩, k0⟩
  case round =>
    obtain ⟨i, hgg, rfl, hi, HM, HF⟩ := hrel
    have Hgg := Lib.hid hgg
    clear hgg
    by_cases hlt : i < 48
    · have hd : decide (i < 48) = true := by simpa using hlt
      have hiz : (i : Int) < 48 := by omega
      have e1 : wrap64 (2 * (i : Int)) = 2 * (i : Int) := by clear HM HF; unfold wrap64; omega
      have e2 : wrap64 (64 + 2 * (i : Int)) = 64 + 2 * (i : Int) := by clear HM HF; unfold wrap64; omega
      have e4 : wrap64 ((i : Int) + 1) = ((i + 1 : Nat) : Int) := by clear HM HF; unfold wrap64; omega
      have HFI := Lib.hid (first_any i hlt wr)
      cases hb : firstB i with
      | false =>
        rw [hb] at HFI
        have E := w0_no hb
        rw [← E] at HM
        have HM := Lib.hid HM.out
        clear E hb
        go_wp2_with fail
        refine HFI.out.mono ?_
        rintro e w2 ⟨rfl, rfl⟩
        go_wp2
        go_roundg (48 - (i + 1))
        case rel => exact ⟨i + 1, rfl, rfl, by omega, HM, HF⟩
        case measure => have := Hgg.out; omega
      | true =>
        rw [hb] at HFI
        have E := Lib.hid (w0_yes hb)
        have HR := Lib.hid (name_right ⟨i, hlt⟩ hb)
        have HN := Lib.hid (Mc.name_any (i : Int) (by simp [Mc.isOp]; omega) wr)
        clear hb
        go_wp2_with fail
        refine HFI.out.mono ?_
        rintro e w2 ⟨rfl, rfl⟩
        go_wp2_with fail
        refine HN.out.mono ?_
        rintro e w2 ⟨rfl, Q2⟩
        have M2 : Hid (∃ wv, Held w2 w.heap.size (wRes w.heap.size wv (w0 i))) := by
          obtain ⟨wv, h⟩ := HM.out
          exact ⟨wv, h.touch (Touch.of_below Q2 (fun _ => False)) (fun _ _ h => h.elim)⟩
        have F2 := Lib.hid (HF.out.trans (Q2.mono HF.out.size))
        obtain ⟨wv, M3⟩ := M2.out
        have hB3 : w.heap.size ≤ w2.heap.size := F2.out.size
        have HA := Lib.hid (add_yes w.heap.size w.heap.size wv (w0 i) ⟨Mc.opName (i : Int), 64 + 2 * (i : Int), (i : Int), false⟩ w2 M3 hB3 HR.out (by have := w0_length i; clear HR HN M2 F2 E HFI HM HF; omega) (name_small _))
        rw [← E.out] at HA
        have M3h := Lib.hid M3
        clear M3 E HR HN M2 HFI HM HF hB3
        go_wp2_with fail
        refine HA.out.mono ?_
        rintro e w4 ⟨rfl, wv', N4⟩
        have M4 : Hid (∃ wv, Held w4 w.heap.size (wRes w.heap.size wv (w0 (i + 1)))) := ⟨wv', N4.held⟩
        have F4 := Lib.hid (F2.out.trans (N4.below F2.out.size M3h.out))
        clear N4 HA F2 M3h
        go_wp2
        go_roundg (48 - (i + 1))
        case rel => exact ⟨i + 1, rfl, rfl, by omega, M4, F4⟩
        case measure => have := Hgg.out; omega
    · obtain rfl : i = 48 := by omega
      go_wp2_with fail
      go_ret
      obtain ⟨wv, M⟩ := HM.out
      rw [w0_end] at M
      exact ⟨wv, rfl, M, HF.out⟩
end Go.Proofs.YtompdfpjmdnhoabGreatDoor.Ou
namespace Go.Proofs.YtompdfpjmdnhoabGreatDoor.Mc
open Go.RowKit Go.Proofs.YtompdfpjmdnhoabGreatDoor.Rs
def bootK (i k : Nat) : Int := if k = 1 then 1 else if 64 ≤ k ∧ k < 64 + 2 * i then (if k % 2 = 0 then ((k - 64) / 2 : Nat) else 5) else (0 : Int)
def bootI (n i : Nat) : List Int := (List.range n).map (bootK i)
theorem bootI_length (n i : Nat) : (bootI n i).length = n := by simp [bootI]
theorem bootI_step (n i : Nat) : ((bootI n i).set (64 + 2 * i) (i : Int)).set (64 + 2 * i + 1) 5 = bootI n (i + 1) := by
  apply List.ext_getElem
  · simp [bootI]
  intro k h1 h2
  simp only [bootI, List.length_set, List.length_map, List.length_range] at h1
  rw [List.getElem_set, List.getElem_set]
  simp only [bootI, List.getElem_map, List.getElem_range]
  unfold bootK
  by_cases ha : 64 + 2 * i + 1 = k
  · rw [if_pos ha, if_neg (by omega), if_pos (by omega), if_neg (by omega)]
  · rw [if_neg ha]
    by_cases hb : 64 + 2 * i = k
    · rw [if_pos hb, if_neg (by omega), if_pos (by omega), if_pos (by omega)]
      omega
    · rw [if_neg hb]
      by_cases hc : k = 1
      · rw [if_pos hc, if_pos hc]
      · rw [if_neg hc, if_neg hc]
        by_cases hd : 64 ≤ k ∧ k < 64 + 2 * i
        · have hd2 : 64 ≤ k ∧ k < 64 + 2 * (i + 1) := by omega
          rw [if_pos hd, if_pos hd2]
        · have hd2 : ¬ (64 ≤ k ∧ k < 64 + 2 * (i + 1)) := by omega
          rw [if_neg hd, if_neg hd2]
theorem bootI_zero (n : Nat) : ((List.replicate n (0 : Int)).set 0 0).set 1 1 = bootI n 0 := by
  apply List.ext_getElem
  · simp [bootI]
  intro k h1 h2
  simp only [List.length_set, List.length_replicate] at h1
  rw [List.getElem_set, List.getElem_set]
  simp only [bootI, List.getElem_map, List.getElem_range, List.getElem_replicate]
  unfold bootK
  by_cases ha : 1 = k
  · rw [if_pos ha, if_pos ha.symm]
  · have hk1 : ¬ k = 1 := by omega
    have hr : ¬ (64 ≤ k ∧ k < 64 + 2 * 0) := by omega
    rw [if_neg ha, if_neg hk1, if_neg hr]
    split <;> rfl
def bCells (inp : ByteArray) (mv : Value) : Array Value := #[.int .i64 0, .int .i64 0, .slice none 0 0, .slice none 0 0, mv, .string ⟨#[]⟩, .string inp, .int .i64 0, .int .i64 1, .int .i64 0]
set_option maxHeartbeats 1000000 in
set_option maxRecDepth 100000 in
theorem put_any (b : Nat) (inp : ByteArray) (A : Option Addr) (c : Nat) (B : Nat) (l : List Int) (a : Nat) (v : Int) (w : World) (H : Held w B [.st b 33 (bCells inp (.slice A l.length c)), .row 3 1 (.slice A l.length c) l.length (ints l)]) (hl : l.length ≤ 5000) (ha : a ≤ 5000) :
    Calls Tryz.prog 24 #[.int .i64 a, .int .i64 v, .pointer (some ⟨b, 0, none⟩)] w fun e w' => e = .returned (.tuple #[]) ∧ Turns w B [.st b 33 (bCells inp (.slice A l.length c)), .row 3 1 (.slice A l.length c) l.length (ints l)] [.st b 33 (bCells inp (.slice A l.length c)), .row 3 1 (.slice A l.length c) l.length (ints (l.set a v))] w' := by
  have k := H.blk (List.mem_cons_self ..)
  have c4 : w.cell? ⟨b, 4, none⟩ = some (.slice A l.length c) := k.cell 4
  by_cases hlt : a < l.length
  · obtain ⟨g, c', hv, hcap, hbg, hg, hcell, hfz⟩ := (H.row (List.mem_cons_of_mem _ (List.mem_cons_self ..))).form (by omega)
    injection hv with h1 _ h3
    subst h1 h3
    have hx := hcell a (by omega)
    rw [ints_get _ _ hlt] at hx
    have fz := hfz a
    have N : Turns w B [.st b 33 (bCells inp (.slice (some ⟨g, 0, none⟩) l.length (c' + 1))), .row 3 1 (.slice (some ⟨g, 0, none⟩) l.length (c' + 1)) l.length (ints l)] [.st b 33 (bCells inp (.slice (some ⟨g, 0, none⟩) l.length (c' + 1))), .row 3 1 (.slice (some ⟨g, 0, none⟩) l.length (c' + 1)) l.length ((ints l).set a (.int .i64 v))] (w.setCell ⟨g, a, none⟩ (.int .i64 v)) :=
      Turns.store_at [.st b 33 (bCells inp (.slice (some ⟨g, 0, none⟩) l.length (c' + 1)))] [] H (by omega)
    have he : (ints l).set a (.int .i64 v) = ints (l.set a v) := by simp [ints, List.map_set]
    rw [he] at N
    have HN := Lib.hid N
    have hi : (a : Int) < (l.length : Int) := by omega
    have hd : decide (a < l.length) = true := by simpa using hlt
    generalize l.length = n at *
    clear N he hcell hfz k H
    go_enter Tryz.func24, Tryz.ntmps24
    go_wp2_with fail
    go_end0
    exact ⟨rfl, HN.out⟩
  · have hs : l.set a v = l := List.set_eq_of_length_le (by omega)
    rw [hs]
    have HN := Lib.hid (Turns.refl H)
    have hi : ¬ (a : Int) < (l.length : Int) := by omega
    have hd : decide (a < l.length) = false := by simpa using hlt
    generalize l.length = n at *
    clear k H hs
    go_enter Tryz.func24, Tryz.ntmps24
    go_wp2_with fail
    go_end0
    exact ⟨rfl, HN.out⟩
theorem made_ints (n : Nat) : (madeCells (Value.int .i64 0).cells (n * 1)).toList = ints (List.replicate n 0) := by
  rw [Nat.mul_one]
  unfold madeCells ints
  rw [List.map_replicate]
  apply List.ext_getElem
  · simp
  intro k h1 h2
  have : k % 1 = 0 := Nat.mod_one k
  simp [Value.cells, this]
theorem put_n (b : Nat) (inp : ByteArray) (A : Option Addr) (c n : Nat) (B : Nat) (l : List Int) (hn : l.length = n) (a : Nat) (az : Int) (haz : az = a) (v : Int) (w : World) (H : Held w B [.st b 33 (bCells inp (.slice A n c)), .row 3 1 (.slice A n c) n (ints l)]) (hl : n ≤ 5000) (ha : a ≤ 5000) :
    Calls Tryz.prog 24 #[.int .i64 az, .int .i64 v, .pointer (some ⟨b, 0, none⟩)] w fun e w' => e = .returned (.tuple #[]) ∧ Turns w B [.st b 33 (bCells inp (.slice A n c)), .row 3 1 (.slice A n c) n (ints l)] [.st b 33 (bCells inp (.slice A n c)), .row 3 1 (.slice A n c) n (ints (l.set a v))] w' := by
  subst hn haz
  exact put_any b inp A c B l a v w H hl ha
theorem boot_keep {w wa wb : World} {R R' : List Res} (h : Held wa (w.heap.size + 1) R) (N : Turns wa (w.heap.size + 1) R R' wb) (hb : Below w.heap.size w wa) (hk : Blk wa w.heap.size 33 #[.int .i64 0, .int .i64 0, .slice none 0 0, .slice none 0 0, .slice none 0 0, .string ⟨#[]⟩, .string ⟨#[]⟩, .int .i64 0, .int .i64 0, .int .i64 0]) : Below w.heap.size w wb ∧ Blk wb w.heap.size 33 #[.int .i64 0, .int .i64 0, .slice none 0 0, .slice none 0 0, .slice none 0 0, .string ⟨#[]⟩, .string ⟨#[]⟩, .int .i64 0, .int .i64 0, .int .i64 0] :=
  ⟨hb.trans (N.touch.below (B := w.heap.size) (fun k hk => by have := (h.low hk).1; omega) hb.size), (N.touch.block _ hk.lt (fun hk => by have := (h.low hk).1; omega)).trans hk⟩
set_option maxHeartbeats 4000000 in
set_option maxRecDepth 100000 in
theorem boot_any (n : Nat) (hn : n ≤ 3000) (inp : ByteArray) (w : World) :
    Calls Tryz.prog 17 #[.int .i64 n, .string inp] w fun e w' => ∃ mv, e = .returned (.agg (sCells (.slice none 0 0) (.slice none 0 0) mv (boot n inp))) ∧ Held w' w.heap.size (stRows (.slice none 0 0) (.slice none 0 0) mv (boot n inp)) ∧ Below w.heap.size w w' := by
  have hmf : ∀ (fn : Fn) (first cap : Array Value) (w : World), (Instr.makeFunc fn first cap).run Tryz.prog w = .ok (.func fn first cap) w := fun _ _ _ _ => rfl
  have hm1 : max (n : Int) 0 = n := by omega
  have hm2 : min (n : Int) 3000 = n := by omega
  obtain ⟨i0, hi, hz0, hz1, hz2⟩ := info_parts infoInt
  have k0 := Lib.hid ((Below.refl w.heap.size w).alloc (Nat.le_refl _) (.cells #[.int .i64 0, .int .i64 0, .slice none 0 0, .slice none 0 0, .slice none 0 0, .string ⟨#[]⟩, .string ⟨#[]⟩, .int .i64 0, .int .i64 0, .int .i64 0] 33))
  have b0 := Lib.hid (Blk.new w 33 #[.int .i64 0, .int .i64 0, .slice none 0 0, .slice none 0 0, .slice none 0 0, .string ⟨#[]⟩, .string ⟨#[]⟩, .int .i64 0, .int .i64 0, .int .i64 0])
  have hbb : i0.bytes * n ≤ 281474976710656 := by rw [hz2]; omega
  go_enter Tryz.func17, Tryz.ntmps17
  go_upto_region 3 with (at_make; refine wpList_make_full _ rfl _ _ 31 rfl (w.heap.size + 1) 3 i0 (.int .i64 0) 1 Tryz.underlying31 hi hz0 hz1 .i64 .i64 _ _ n rfl rfl (by simp [hm1, hm2]) (by simp [hm1, hm2]) hbb (by unfold maxLen; omega) (by simp) ?_; intro w2 ho hg)
  have hsz := hg.size
  have hz2 : w.heap.size + 1 ≤ w2.heap.size := by simp at hsz; exact hsz
  rw [made_ints] at ho
  have hR := Row.of_own ho
  have hS : (w.alloc (.cells #[.int .i64 0, .int .i64 0, .slice none 0 0, .slice none 0 0, .slice none 0 0, .string ⟨#[]⟩, .string ⟨#[]⟩, .int .i64 0, .int .i64 0, .int .i64 0] 33)).heap.size = w.heap.size + 1 := by simp
  rw [hS] at hR
  have N3 := Turns.new_st (⟨fun r hr => (by simp only [List.mem_singleton] at hr; subst hr; exact hR), by cases e : roomBlock (.slice (some ⟨w.heap.size + 1, 0, none⟩) n n) <;> simp [blks, Res.blk, e]⟩ : Held w2 (w.heap.size + 1) [.row 3 1 (.slice (some ⟨w.heap.size + 1, 0, none⟩) n n) n (ints (List.replicate n 0))]) hz2 33 (bCells inp (.slice (some ⟨w.heap.size + 1, 0, none⟩) n n))
  have H3 := Lib.hid N3.held
  have F3 := Lib.hid ((k0.out.trans ((Touch.of_grown (S := fun _ => False) hg (fun k hk => by cases hk)).below (fun _ h => h.elim) (by simp))).alloc (by have := hz2; omega) (.cells (bCells inp (.slice (some ⟨w.heap.size + 1, 0, none⟩) n n)) 33))
  have D3 := Lib.hid ((b0.out.grown hg (by simp)).alloc (.cells (bCells inp (.slice (some ⟨w.heap.size + 1, 0, none⟩) n n)) 33))
  clear N3 hR ho hg hsz k0 b0 hS hi hz0 hz1 hbb hmf
  have hb : bCells inp (.slice (some ⟨w.heap.size + 1, 0, none⟩) n n) = #[.int .i64 0, .int .i64 0, .slice none 0 0, .slice none 0 0, .slice (some ⟨w.heap.size + 1, 0, none⟩) n n, .string ⟨#[]⟩, .string inp, .int .i64 0, .int .i64 1, .int .i64 0] := rfl
  have hle : n ≤ 5000 := by omega
  have P0 := Lib.hid (put_n w2.heap.size inp _ n n (w.heap.size + 1) _ (List.length_replicate ..) 0 0 rfl 0 _ H3.out hle (by omega))
  rw [hb] at F3 D3 H3 P0
  generalize hw3 : w2.alloc (.cells #[.int .i64 0, .int .i64 0, .slice none 0 0, .slice none 0 0, .slice (some ⟨w.heap.size + 1, 0, none⟩) n n, .string ⟨#[]⟩, .string inp, .int .i64 0, .int .i64 1, .int .i64 0] 33) = w3 at *
  generalize w2.heap.size = b5 at *
  clear hw3 hz2 hm1 hm2
  go_wp2_with fail
  refine P0.out.mono ?_
  rintro e w4 ⟨rfl, N4⟩
  obtain ⟨f4, d4⟩ := boot_keep H3.out N4 F3.out D3.out
  have P1 := Lib.hid (put_n b5 inp _ n n (w.heap.size + 1) _ (by simp) 1 1 rfl 1 _ N4.held hle (by omega))
  have H4 := Lib.hid N4.held
  have F4 := Lib.hid f4
  have D4 := Lib.hid d4
  clear N4 f4 d4 P0 H3 F3 D3
  go_wp2_with fail
  refine P1.out.mono ?_
  rintro e w6 ⟨rfl, N6⟩
  rw [bootI_zero] at N6
  obtain ⟨f6, d6⟩ := boot_keep H4.out N6 F4.out D4.out
  have H6 := Lib.hid N6.held
  have F6 := Lib.hid f6
  have D6 := Lib.hid d6
  clear N6 f6 d6 P1 H4 F4 D4
  go_wp2_with fail
  go_loopg [19] 48 (fun gg v19 wr => ∃ i : Nat, gg = 48 - i ∧ v19 = .int .i64 i ∧ i ≤ 48 ∧ Hid (Held wr (w.heap.size + 1) [.st b5 33 (bCells inp (.slice (some ⟨w.heap.size + 1, 0, none⟩) n n)), .row 3 1 (.slice (some ⟨w.heap.size + 1, 0, none⟩) n n) n (ints (bootI n i))]) ∧ Hid (Below w.heap.size w wr) ∧ Hid (Blk wr w.heap.size 33 #[.int .i64 0, .int .i64 0, .slice none 0 0, .slice none 0 0, .slice none 0 0, .string ⟨#[]⟩, .string ⟨#[]⟩, .int .i64 0, .int .i64 0, .int .i64 0]))
  case atStart => exact ⟨0, rfl, rfl, by omega, H6, F6, D6⟩
  case round =>
    obtain ⟨i, hgg, rfl, hi, HM, HF, HD⟩ := hrel
    have Hgg := Lib.hid hgg
    clear hgg
    by_cases hlt : i < 48
    · have hd : decide (i < 48) = true := by simpa using hlt
      have hiz : (i : Int) < 48 := by omega
      have e1 : wrap64 (2 * (i : Int)) = 2 * (i : Int) := by clear HM HF HD; unfold wrap64; omega
      have e2 : wrap64 (64 + 2 * (i : Int)) = 64 + 2 * (i : Int) := by clear HM HF HD; unfold wrap64; omega
      have e3 : wrap64 (64 + 2 * (i : Int) + 1) = 64 + 2 * (i : Int) + 1 := by clear HM HF HD; unfold wrap64; omega
      have e4 : wrap64 ((i : Int) + 1) = ((i + 1 : Nat) : Int) := by clear HM HF HD; unfold wrap64; omega
      have PA := Lib.hid (put_n b5 inp _ n n (w.heap.size + 1) _ (bootI_length n i) (64 + 2 * i) (64 + 2 * (i : Int)) (by clear HM HF HD; omega) i _ HM.out hle (by clear HM HF HD; omega))
      go_wp2_with fail
      refine PA.out.mono ?_
      rintro e w7 ⟨rfl, N7⟩
      obtain ⟨f7, d7⟩ := boot_keep HM.out N7 HF.out HD.out
      have PB := Lib.hid (put_n b5 inp _ n n (w.heap.size + 1) _ (by simp [bootI_length]) (64 + 2 * i + 1) (64 + 2 * (i : Int) + 1) (by clear HM HF HD PA f7 d7 N7; omega) 5 _ N7.held hle (by clear HM HF HD PA f7 d7 N7; omega))
      have H7 := Lib.hid N7.held
      have F7 := Lib.hid f7
      have D7 := Lib.hid d7
      clear f7 d7 PA
      go_wp2_with fail
      refine PB.out.mono ?_
      rintro e w8 ⟨rfl, N8⟩
      rw [bootI_step] at N8
      obtain ⟨f8, d8⟩ := boot_keep H7.out N8 F7.out D7.out
      have H8 := Lib.hid N8.held
      have F8 := Lib.hid f8
      have D8 := Lib.hid d8
      clear f8 d8 PB N8 H7 F7 D7 N7
      go_wp2
      go_roundg (48 - (i + 1))
      case rel => exact ⟨i + 1, rfl, rfl, by omega, H8, F8, D8⟩
      case measure => have := Hgg.out; omega
    · obtain rfl : i = 48 := by omega
      have kb := HM.out.blk (b := b5) (T := 33) (vs := bCells inp (.slice (some ⟨w.heap.size + 1, 0, none⟩) n n)) (by simp)
      have c0 := kb.cell 0; have c1 := kb.cell 1; have c2 := kb.cell 2; have c3 := kb.cell 3; have c4 := kb.cell 4
      have c5 := kb.cell 5; have c6 := kb.cell 6; have c7 := kb.cell 7; have c8 := kb.cell 8; have c9 := kb.cell 9
      simp only [bCells, List.getElem?_toArray, List.getElem?_cons_zero, List.getElem?_cons_succ] at c0 c1 c2 c3 c4 c5 c6 c7 c8 c9
      have h1 : (#[.int .i64 0, .int .i64 0, .slice none 0 0, .slice none 0 0, .slice (some ⟨w.heap.size + 1, 0, none⟩) n n, .string ⟨#[]⟩, .string inp, .int .i64 0, .int .i64 1, .int .i64 0] : Array Value).all (·.oneCell') = true := by simp [Value.oneCell']
      have hi : (Tryz.prog.info? 33).map (·.size) = some (#[.int .i64 0, .int .i64 0, .slice none 0 0, .slice none 0 0, .slice (some ⟨w.heap.size + 1, 0, none⟩) n n, .string ⟨#[]⟩, .string inp, .int .i64 0, .int .i64 1, .int .i64 0] : Array Value).size := by kernel_rfl
      have H1 := Lib.hid h1
      have HI := Lib.hid hi
      clear h1 hi kb
      go_wp2_with (refine wpList_store_row rfl _ _ _ rfl w.heap.size #[.int .i64 0, .int .i64 0, .slice none 0 0, .slice none 0 0, .slice (some ⟨w.heap.size + 1, 0, none⟩) n n, .string ⟨#[]⟩, .string inp, .int .i64 0, .int .i64 1, .int .i64 0] rfl rfl _ _ HD.out HI.out rfl H1.out ?_)
      refine bodyPost_ret (results_cell_row rfl _ _ w.heap.size _ _ (0, 0) _ rfl (setRow_heap _ _ _ _ _ _ HD.out) Tryz.underlying33 rfl HI.out) rfl ⟨.slice (some ⟨w.heap.size + 1, 0, none⟩) n n, rfl, ?_, ?_⟩
      · have T : Touch wr (wr.setRow w.heap.size #[.int .i64 0, .int .i64 0, .slice none 0 0, .slice none 0 0, .slice (some ⟨w.heap.size + 1, 0, none⟩) n n, .string ⟨#[]⟩, .string inp, .int .i64 0, .int .i64 1, .int .i64 0]) (fun k => k = w.heap.size) := Wv.touch_setRow _ _ _
        have hm : Row wr (w.heap.size + 1) 3 1 (.slice (some ⟨w.heap.size + 1, 0, none⟩) n n) n (ints (bootI n 48)) := HM.out.row (by simp)
        have hm2 := (hm.touch T (fun k hk e => by have := (hm.lt k hk).1; omega)).mono (B' := w.heap.size) (by omega)
        have hln : (bootMem n).length = n := bootI_length n 48
        refine rows3_held ⟨Row.nil _ _ _ _ _, Row.nil _ _ _ _ _, ?_⟩ (fun k h => by simp [roomBlock] at h) (fun k h => by simp [roomBlock] at h) (fun k h => by simp [roomBlock] at h)
        show Row _ _ _ 1 _ (bootMem n).length (ints (bootMem n))
        rw [hln]
        exact hm2
      · exact HF.out.trans ⟨rfl, rfl, rfl, by simp, fun k hk => setRow_other _ _ _ _ (Nat.ne_of_lt hk)⟩
end Go.Proofs.YtompdfpjmdnhoabGreatDoor.Mc
