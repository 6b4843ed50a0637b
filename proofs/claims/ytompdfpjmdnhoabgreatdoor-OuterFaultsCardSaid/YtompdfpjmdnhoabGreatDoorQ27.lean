/-
  Lemmas on the way, for every input that they name: Nb.
-/
import Derived.Test.YtompdfpjmdnhoabGreatDoorQ25
set_option linter.unusedVariables false
set_option linter.unusedSimpArgs false
set_option linter.deprecated false
namespace Go.Proofs.YtompdfpjmdnhoabGreatDoor.Mc
open Go.RowKit Go.Proofs.YtompdfpjmdnhoabGreatDoor.Rs
theorem row_one (w : World) (B : Nat) (x : Int) (hB : B ≤ w.heap.size) : Row (w.alloc (.cells #[.int .i64 x] 3)) B 3 1 (.slice (some ⟨w.heap.size, 0, none⟩) 1 1) 1 (ints [x]) :=
  ⟨rfl, .inr ⟨w.heap.size, 0, #[.int .i64 x], rfl, hB, heap_alloc_new _ _, Nat.le_refl _, by unfold maxLen; omega, rfl, rfl⟩⟩
set_option maxHeartbeats 4000000 in
set_option maxRecDepth 100000 in
theorem enter_any (B : Nat) (sv bv mv : Value) (s : S) (xt : Int) (w : World) (H : StRows w B sv bv mv s) (hs : s.stack.length ≤ 5000) (hb : s.back.length ≤ 5000) (hm : s.mem.length ≤ 5000) :
    Calls Tryz.prog 52 #[.agg (sCells sv bv mv s), .int .i64 xt] w fun e w' => ∃ sv' bv' mv', e = .returned (.agg (sCells sv' bv' mv' (enter s xt))) ∧ Held w' w.heap.size (stRows sv' bv' mv' (enter s xt)) ∧ Below w.heap.size w w' := by
  obtain ⟨SA, sc, rfl⟩ := H.st.slice
  obtain ⟨BA, bc, rfl⟩ := H.bk.slice
  obtain ⟨MA, mc, rfl⟩ := H.me.slice
  have k1 := ((Below.refl w.heap.size w).alloc (Nat.le_refl _) (.cells (sCells (.slice SA s.stack.length sc) (.slice BA s.back.length bc) (.slice MA s.mem.length mc) s) 33)).alloc (by simp) (.cells #[.int .i64 0, .int .i64 0, .slice none 0 0, .slice none 0 0, .slice none 0 0, .string ⟨#[]⟩, .string ⟨#[]⟩, .int .i64 0, .int .i64 0, .int .i64 0] 33)
  have b1 := (Blk.new w 33 (sCells (.slice SA s.stack.length sc) (.slice BA s.back.length bc) (.slice MA s.mem.length mc) s)).alloc (.cells #[.int .i64 0, .int .i64 0, .slice none 0 0, .slice none 0 0, .slice none 0 0, .string ⟨#[]⟩, .string ⟨#[]⟩, .int .i64 0, .int .i64 0, .int .i64 0] 33)
  have b2 : Blk ((w.alloc (.cells (sCells (.slice SA s.stack.length sc) (.slice BA s.back.length bc) (.slice MA s.mem.length mc) s) 33)).alloc (.cells #[.int .i64 0, .int .i64 0, .slice none 0 0, .slice none 0 0, .slice none 0 0, .string ⟨#[]⟩, .string ⟨#[]⟩, .int .i64 0, .int .i64 0, .int .i64 0] 33)) (w.heap.size + 1) 33 #[.int .i64 0, .int .i64 0, .slice none 0 0, .slice none 0 0, .slice none 0 0, .string ⟨#[]⟩, .string ⟨#[]⟩, .int .i64 0, .int .i64 0, .int .i64 0] := by
    simpa using Blk.new (w.alloc (.cells (sCells (.slice SA s.stack.length sc) (.slice BA s.back.length bc) (.slice MA s.mem.length mc) s) 33)) 33 #[.int .i64 0, .int .i64 0, .slice none 0 0, .slice none 0 0, .slice none 0 0, .string ⟨#[]⟩, .string ⟨#[]⟩, .int .i64 0, .int .i64 0, .int .i64 0]
  have hz1 : ((w.alloc (.cells (sCells (.slice SA s.stack.length sc) (.slice BA s.back.length bc) (.slice MA s.mem.length mc) s) 33)).alloc (.cells #[.int .i64 0, .int .i64 0, .slice none 0 0, .slice none 0 0, .slice none 0 0, .string ⟨#[]⟩, .string ⟨#[]⟩, .int .i64 0, .int .i64 0, .int .i64 0] 33)).heap.size = w.heap.size + 2 := by simp
  have HC := Lib.hid (copy_any B _ _ _ s _ (H.below k1 (Nat.le_refl _)) hs hb hm)
  unfold sCells at *
  have K1 := Lib.hid k1
  have B1 := Lib.hid b1
  have B2 := Lib.hid b2
  clear k1 b1 b2 H
  go_enter Tryz.func52, Tryz.ntmps52
  go_wp2_with fail
  generalize hw1 : (w.alloc (.cells #[.int .i64 s.ip, .int .i64 s.handler, .slice SA s.stack.length sc, .slice BA s.back.length bc, .slice MA s.mem.length mc, .string s.out, .string s.inp, .int .i64 s.read, .int .i64 s.status, .int .i64 s.code] 33)).alloc (.cells #[.int .i64 0, .int .i64 0, .slice none 0 0, .slice none 0 0, .slice none 0 0, .string ⟨#[]⟩, .string ⟨#[]⟩, .int .i64 0, .int .i64 0, .int .i64 0] 33) = w1 at *
  clear hw1
  refine HC.out.mono ?_
  rintro e w2 ⟨sv1, bv1, mv1, rfl, H2, t2⟩
  have hrs := st_rows H2
  obtain ⟨S1, s1, rfl⟩ := hrs.st.slice
  obtain ⟨V1, v1, rfl⟩ := hrs.bk.slice
  obtain ⟨M1, m1, rfl⟩ := hrs.me.slice
  rw [hz1] at H2
  have hz2 : w.heap.size + 2 ≤ w2.heap.size := hz1 ▸ t2.size
  have C2 := B1.out.below t2 B1.out.lt
  have D2 := Lib.hid (B2.out.below t2 B2.out.lt)
  have F2 := K1.out.trans (t2.mono K1.out.size)
  have HH2 := Lib.hid H2
  have FF2 := Lib.hid F2
  clear t2 hrs HC B1 B2 K1 H2 F2
  have h1 : (#[.int .i64 s.ip, .int .i64 s.handler, .slice S1 s.stack.length s1, .slice V1 s.back.length v1, .slice M1 s.mem.length m1, .string s.out, .string s.inp, .int .i64 s.read, .int .i64 s.status, .int .i64 s.code] : Array Value).all (·.oneCell') = true := by simp [Value.oneCell']
  have hi : (Tryz.prog.info? 33).map (·.size) = some (#[.int .i64 s.ip, .int .i64 s.handler, .slice S1 s.stack.length s1, .slice V1 s.back.length v1, .slice M1 s.mem.length m1, .string s.out, .string s.inp, .int .i64 s.read, .int .i64 s.status, .int .i64 s.code] : Array Value).size := by kernel_rfl
  have H1 := Lib.hid h1
  have HI := Lib.hid hi
  clear h1 hi
  have C2' := Lib.hid C2
  clear C2
  go_upto_region 2 with (refine wpList_store_row rfl _ _ _ rfl w.heap.size #[.int .i64 s.ip, .int .i64 s.handler, .slice S1 s.stack.length s1, .slice V1 s.back.length v1, .slice M1 s.mem.length m1, .string s.out, .string s.inp, .int .i64 s.read, .int .i64 s.status, .int .i64 s.code] rfl rfl _ _ C2'.out HI.out rfl H1.out ?_)
  have Ts : Touch w2 (w2.setRow w.heap.size #[.int .i64 s.ip, .int .i64 s.handler, .slice S1 s.stack.length s1, .slice V1 s.back.length v1, .slice M1 s.mem.length m1, .string s.out, .string s.inp, .int .i64 s.read, .int .i64 s.status, .int .i64 s.code]) (fun k => k = w.heap.size) := Wv.touch_setRow _ _ _
  have C3 : Hid (Blk (w2.setRow w.heap.size #[.int .i64 s.ip, .int .i64 s.handler, .slice S1 s.stack.length s1, .slice V1 s.back.length v1, .slice M1 s.mem.length m1, .string s.out, .string s.inp, .int .i64 s.read, .int .i64 s.status, .int .i64 s.code]) w.heap.size 33 #[.int .i64 s.ip, .int .i64 s.handler, .slice S1 s.stack.length s1, .slice V1 s.back.length v1, .slice M1 s.mem.length m1, .string s.out, .string s.inp, .int .i64 s.read, .int .i64 s.status, .int .i64 s.code]) := setRow_heap _ _ _ _ _ _ C2'.out
  have D3 : Hid (Blk (w2.setRow w.heap.size #[.int .i64 s.ip, .int .i64 s.handler, .slice S1 s.stack.length s1, .slice V1 s.back.length v1, .slice M1 s.mem.length m1, .string s.out, .string s.inp, .int .i64 s.read, .int .i64 s.status, .int .i64 s.code]) (w.heap.size + 1) 33 _) := (Ts.block _ D2.out.lt (by omega)).trans D2.out
  have F3 := Lib.hid (FF2.out.trans (Ts.below (B := w.heap.size) (fun k h => by omega) FF2.out.size))
  have H3 := Lib.hid (HH2.out.touch Ts (fun k hk e => by have := (HH2.out.low hk).1; omega))
  have hz3 : w.heap.size + 2 ≤ (w2.setRow w.heap.size #[.int .i64 s.ip, .int .i64 s.handler, .slice S1 s.stack.length s1, .slice V1 s.back.length v1, .slice M1 s.mem.length m1, .string s.out, .string s.inp, .int .i64 s.read, .int .i64 s.status, .int .i64 s.code]).heap.size := by simpa using hz2
  generalize w2.setRow w.heap.size #[.int .i64 s.ip, .int .i64 s.handler, .slice S1 s.stack.length s1, .slice V1 s.back.length v1, .slice M1 s.mem.length m1, .string s.out, .string s.inp, .int .i64 s.read, .int .i64 s.status, .int .i64 s.code] = w3 at *
  clear Ts C2' D2 FF2 HH2 hz2 H1 HI
  have c0 := C3.out.cell 0; have c1 := C3.out.cell 1; have c3 := C3.out.cell 3; have c8 := C3.out.cell 8; have c9 := C3.out.cell 9
  simp only [List.getElem?_toArray, List.getElem?_cons_zero, List.getElem?_cons_succ] at c0 c1 c3 c8 c9
  have f0 := C3.out.frozen 0; have f1 := C3.out.frozen 1; have f3 := C3.out.frozen 3; have f8 := C3.out.frozen 8; have f9 := C3.out.frozen 9
  have h0 := C3.out.alloc (.cells #[.int .i64 0] 3)
  have h1 := h0.set_ 0 (.int .i64 xt)
  simp only [List.setIfInBounds_toArray, List.set_cons_zero, List.set_cons_succ] at h1
  have h2 := h1.set_ 1 (.int .i64 0)
  simp only [List.setIfInBounds_toArray, List.set_cons_zero, List.set_cons_succ] at h2
  have h3 := h2.set_ 3 (.slice (some ⟨w3.heap.size, 0, none⟩) 1 1)
  simp only [List.setIfInBounds_toArray, List.set_cons_zero, List.set_cons_succ] at h3
  have h4 := h3.set_ 8 (.int .i64 0)
  simp only [List.setIfInBounds_toArray, List.set_cons_zero, List.set_cons_succ] at h4
  have h5 := h4.set_ 9 (.int .i64 0)
  simp only [List.setIfInBounds_toArray, List.set_cons_zero, List.set_cons_succ] at h5
  have two : ∀ {a b : World} (i : Nat) (u : Value), Touch a b (fun k => k = w.heap.size) → Touch a (b.setCell ⟨w.heap.size, i, none⟩ u) (fun k => k = w.heap.size) := fun i u T => T.trans (set_touch _ w.heap.size i u) (fun _ h => .inl h)
  have Ts : Touch (w3.alloc (.cells #[.int .i64 0] 3)) ((((((w3.alloc (.cells #[.int .i64 0] 3)).setCell ⟨w.heap.size, 0, none⟩ (.int .i64 xt)).setCell ⟨w.heap.size, 1, none⟩ (.int .i64 0)).setCell ⟨w.heap.size, 3, none⟩ (.slice (some ⟨w3.heap.size, 0, none⟩) 1 1)).setCell ⟨w.heap.size, 8, none⟩ (.int .i64 0)).setCell ⟨w.heap.size, 9, none⟩ (.int .i64 0)) (fun k => k = w.heap.size) := by
    refine two _ _ ?_; refine two _ _ ?_; refine two _ _ ?_; refine two _ _ ?_; refine two _ _ ?_
    exact Touch.refl _ _
  have Ta : Touch w3 (w3.alloc (.cells #[.int .i64 0] 3)) (fun k => k = w.heap.size) := alloc_touch _ _ _
  have T4 : Touch w3 ((((((w3.alloc (.cells #[.int .i64 0] 3)).setCell ⟨w.heap.size, 0, none⟩ (.int .i64 xt)).setCell ⟨w.heap.size, 1, none⟩ (.int .i64 0)).setCell ⟨w.heap.size, 3, none⟩ (.slice (some ⟨w3.heap.size, 0, none⟩) 1 1)).setCell ⟨w.heap.size, 8, none⟩ (.int .i64 0)).setCell ⟨w.heap.size, 9, none⟩ (.int .i64 0)) (fun k => k = w.heap.size) := Ta.trans Ts (fun _ h => .inl h)
  have hr := st_rows H3.out
  have L : ∀ k, k ∈ blks (stRows (.slice S1 s.stack.length s1) (.slice V1 s.back.length v1) (.slice M1 s.mem.length m1) s) → w.heap.size + 2 ≤ k ∧ k < w3.heap.size := fun k hk => H3.out.low hk
  have LS : ∀ k, roomBlock (.slice S1 s.stack.length s1) = some k → w.heap.size + 2 ≤ k ∧ k < w3.heap.size := fun k hk => hr.st.lt k hk
  have LM : ∀ k, roomBlock (.slice M1 s.mem.length m1) = some k → w.heap.size + 2 ≤ k ∧ k < w3.heap.size := fun k hk => hr.me.lt k hk
  have q1 := hr.st.touch T4 (fun k hk e => by have := LS k hk; omega)
  have q2 := (row_one w3 (w.heap.size + 2) 0 hz3).touch Ts (fun k hk e => by simp [roomBlock] at hk; omega)
  have q3 := hr.me.touch T4 (fun k hk e => by have := LM k hk; omega)
  have hsm : ∀ k, roomBlock (.slice S1 s.stack.length s1) = some k → roomBlock (.slice M1 s.mem.length m1) ≠ some k := fun k h h' => H3.out.ne (r1 := .row 3 1 (.slice S1 s.stack.length s1) s.stack.length (ints s.stack)) (r2 := .row 3 1 (.slice M1 s.mem.length m1) s.mem.length (ints s.mem)) (by simp) h h' rfl
  have HH : Held ((((((w3.alloc (.cells #[.int .i64 0] 3)).setCell ⟨w.heap.size, 0, none⟩ (.int .i64 xt)).setCell ⟨w.heap.size, 1, none⟩ (.int .i64 0)).setCell ⟨w.heap.size, 3, none⟩ (.slice (some ⟨w3.heap.size, 0, none⟩) 1 1)).setCell ⟨w.heap.size, 8, none⟩ (.int .i64 0)).setCell ⟨w.heap.size, 9, none⟩ (.int .i64 0)) (w.heap.size + 2) (stRows (.slice S1 s.stack.length s1) (.slice (some ⟨w3.heap.size, 0, none⟩) 1 1) (.slice M1 s.mem.length m1) (enter s xt)) :=
    rows3_held ⟨q1, q2, q3⟩ (fun k h h' => by have := LS k h; simp [roomBlock] at h'; omega) hsm (fun k h h' => by have := LM k h'; simp [roomBlock] at h; omega)
  have H4 := Lib.hid HH
  have B4 := Lib.hid h5
  have D4 := Lib.hid ((T4.block _ D3.out.lt (by omega)).trans D3.out)
  have F4 := Lib.hid (F3.out.trans (T4.below (B := w.heap.size) (fun k h => by omega) F3.out.size))
  have a0 := h0.cell 0; have a1 := h0.cell 1; have a3 := h0.cell 3; have a8 := h0.cell 8; have a9 := h0.cell 9
  simp only [List.getElem?_toArray, List.getElem?_cons_zero, List.getElem?_cons_succ] at a0 a1 a3 a8 a9
  have z0 := h0.frozen 0; have z1 := h0.frozen 1; have z3 := h0.frozen 3; have z8 := h0.frozen 8; have z9 := h0.frozen 9
  clear c0 c1 c3 c8 c9 f0 f1 f3 f8 f9 hz1 hs hb hm
  clear h0 h1 h2 h3 h4 h5 two Ts Ta T4 hr L LS LM q1 q2 q3 hsm HH H3 F3 D3 C3
  go_upto_region 3 with fail
  generalize ((((((w3.alloc (.cells #[.int .i64 0] 3)).setCell ⟨w.heap.size, 0, none⟩ (.int .i64 xt)).setCell ⟨w.heap.size, 1, none⟩ (.int .i64 0)).setCell ⟨w.heap.size, 3, none⟩ (.slice (some ⟨w3.heap.size, 0, none⟩) 1 1)).setCell ⟨w.heap.size, 8, none⟩ (.int .i64 0)).setCell ⟨w.heap.size, 9, none⟩ (.int .i64 0)) = w5 at *
  generalize w3.heap.size = b3 at *
  clear a0 a1 a3 a8 a9 z0 z1 z3 z8 z9
  have c0 := B4.out.cell 0; have c1 := B4.out.cell 1; have c2 := B4.out.cell 2; have c3 := B4.out.cell 3; have c4 := B4.out.cell 4
  have c5 := B4.out.cell 5; have c6 := B4.out.cell 6; have c7 := B4.out.cell 7; have c8 := B4.out.cell 8; have c9 := B4.out.cell 9
  simp only [List.getElem?_toArray, List.getElem?_cons_zero, List.getElem?_cons_succ] at c0 c1 c2 c3 c4 c5 c6 c7 c8 c9
  have h1 : (#[.int .i64 xt, .int .i64 0, .slice S1 s.stack.length s1, .slice (some ⟨b3, 0, none⟩) 1 1, .slice M1 s.mem.length m1, .string s.out, .string s.inp, .int .i64 s.read, .int .i64 0, .int .i64 0] : Array Value).all (·.oneCell') = true := by simp [Value.oneCell']
  have hi : (Tryz.prog.info? 33).map (·.size) = some (#[.int .i64 xt, .int .i64 0, .slice S1 s.stack.length s1, .slice (some ⟨b3, 0, none⟩) 1 1, .slice M1 s.mem.length m1, .string s.out, .string s.inp, .int .i64 s.read, .int .i64 0, .int .i64 0] : Array Value).size := by kernel_rfl
  have H1 := Lib.hid h1
  have HI := Lib.hid hi
  clear h1 hi B4
  go_wp2_with (refine wpList_store_row rfl _ _ _ rfl (w.heap.size + 1) #[.int .i64 xt, .int .i64 0, .slice S1 s.stack.length s1, .slice (some ⟨b3, 0, none⟩) 1 1, .slice M1 s.mem.length m1, .string s.out, .string s.inp, .int .i64 s.read, .int .i64 0, .int .i64 0] rfl rfl _ _ D4.out HI.out rfl H1.out ?_)
  refine bodyPost_ret (results_cell_row rfl _ _ (w.heap.size + 1) _ _ (0, 0) _ rfl (setRow_heap _ _ _ _ _ _ D4.out) Tryz.underlying33 rfl HI.out) rfl ⟨.slice S1 s.stack.length s1, .slice (some ⟨b3, 0, none⟩) 1 1, .slice M1 s.mem.length m1, rfl, ?_, ?_⟩
  · have T : Touch w5 (w5.setRow (w.heap.size + 1) #[.int .i64 xt, .int .i64 0, .slice S1 s.stack.length s1, .slice (some ⟨b3, 0, none⟩) 1 1, .slice M1 s.mem.length m1, .string s.out, .string s.inp, .int .i64 s.read, .int .i64 0, .int .i64 0]) (fun k => k = w.heap.size + 1) := Wv.touch_setRow _ _ _
    exact (H4.out.touch T (fun k hk e => by have := (H4.out.low hk).1; omega)).mono (by omega)
  · exact F4.out.trans ⟨rfl, rfl, rfl, by simp, fun k hk => setRow_other _ _ _ _ (Nat.ne_of_lt (Nat.lt_succ_of_lt hk))⟩
end Go.Proofs.YtompdfpjmdnhoabGreatDoor.Mc
