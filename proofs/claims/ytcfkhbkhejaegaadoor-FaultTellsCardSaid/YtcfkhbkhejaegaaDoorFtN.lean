/-
  Chapter 2 (fault): FaultTells: the document's text, of no fault at all, the words handed in.
-/
import Derived.Test.YtcfkhbkhejaegaaDoorFtK
import Derived.Test.YtcfkhbkhejaegaaDoorBkT
import Derived.SliceStrings
import Derived.Deep.Slices
namespace Go.Proofs.YtcfkhbkhejaegaaDoor.Ft
open Go.RowKit Go.Extern.Stop Go.Stop Go.Extern

set_option maxRecDepth 100000 in
theorem inner_nil (w : World) : Calls Tryd.prog 40 #[.nilIface] w fun e w' => e = .returned (.agg #[.int .i64 0, .int .i64 0]) ∧ Below w.heap.size w w' := by
  go_enter Tryd.func40, Tryd.ntmps40
  go_wp2_with fail
  refine (As_nil _ _).mono ?_
  rintro e w' ⟨rfl, rfl⟩
  go_wp2_with fail
  have hb : Below w.heap.size w ((w.alloc (.cells #[.int .i64 0, .int .i64 0] 73)).alloc (.cells #[.pointer none] 71)) := ((Below.refl _ _).alloc (Nat.le_refl _) _).alloc (by simp) _
  have k0 : Blk ((w.alloc (.cells #[.int .i64 0, .int .i64 0] 73)).alloc (.cells #[.pointer none] 71)) w.heap.size 73 #[.int .i64 0, .int .i64 0] := (Blk.new _ _ _).alloc _
  refine bodyPost_ret_by (v := .agg #[.int .i64 0, .int .i64 0]) (results_cell_row (fn := Tryd.f40) (p := 2) (ty := 73) rfl _ _ w.heap.size 73 #[.int .i64 0, .int .i64 0] (0, 0) _ rfl (by first | exact k0 | exact (k0.set_ 0 (.int .i64 0)).set_ 1 (.int .i64 0)) Tryd.underlying73 rfl (by kernel_rfl)) rfl ?_
  exact ⟨rfl, by first | exact hb | exact (hb.setCell (p := ⟨w.heap.size, 0, none⟩) (Nat.le_refl _) (.int .i64 0)).setCell (p := ⟨w.heap.size, 1, none⟩) (Nat.le_refl _) (.int .i64 0)⟩
set_option maxRecDepth 100000 in
theorem code_nil (w : World) : Calls Tryd.prog 23 #[.nilIface] w fun e w' => e = .returned (.int .i64 0) ∧ Below w.heap.size w w' := by
  have HI := Lib.hid (inner_nil w)
  have fe : ∀ W, (Instr.field 73 (.agg #[.int .i64 0, .int .i64 0]) 0).run Tryd.prog W = .ok (.int .i64 0) W := fun W => by kernel_rfl
  go_enter Tryd.func23, Tryd.ntmps23
  go_wp2_with fail
  refine HI.out.mono ?_
  rintro e w' ⟨rfl, hb⟩
  have HB := Lib.hid hb
  clear hb HI
  go_wp2_with fail
  go_ret
  exact ⟨rfl, HB.out⟩
set_option maxRecDepth 100000 in
theorem where_nil (w : World) : Calls Tryd.prog 24 #[.nilIface] w fun e w' => e = .returned (.int .i64 0) ∧ Below w.heap.size w w' := by
  have HI := Lib.hid (inner_nil w)
  have fe : ∀ W, (Instr.field 73 (.agg #[.int .i64 0, .int .i64 0]) 1).run Tryd.prog W = .ok (.int .i64 0) W := fun W => by kernel_rfl
  go_enter Tryd.func24, Tryd.ntmps24
  go_wp2_with fail
  refine HI.out.mono ?_
  rintro e w' ⟨rfl, hb⟩
  have HB := Lib.hid hb
  clear hb HI
  go_wp2_with fail
  go_ret
  exact ⟨rfl, HB.out⟩

set_option maxHeartbeats 4000000 in
set_option maxRecDepth 100000 in
theorem rtext_of (w : World) : ∀ q ∈ texts, Calls Tryd.prog 21 #[.int .i64 q.1] w fun e w' => e = .returned (.string ⟨q.2.toArray⟩) ∧ w = w' := by
  intro q hq
  simp only [texts, List.mem_cons, List.not_mem_nil, or_false] at hq
  rcases hq with rfl | rfl | rfl | rfl | rfl | rfl | rfl | rfl | rfl | rfl | rfl | rfl | rfl
  all_goals
    go_enter Tryd.func21, Tryd.ntmps21
    go_wp2_with fail
    go_ret
    exact ⟨rfl, rfl⟩

set_option maxHeartbeats 4000000 in
set_option maxRecDepth 100000 in
theorem rtext_any (code : Int) (a1 : -9223372036854775808 ≤ code) (a2 : code ≤ 9223372036854775807) (w : World) :
    Calls Tryd.prog 21 #[.int .i64 code] w fun e w' => e = .returned (.string ⟨(textV code).toArray⟩) ∧ w = w' := by
  rcases textV_cases code with ⟨p, hp, e1, e2⟩ | ⟨e1, e2⟩
  · rw [e2, ← e1]
    exact rtext_of w p hp
  · have hi := Dg.rput_any code 10 a1 a2 w
    rw [← itoa_put] at hi
    have HI := Lib.hid hi
    have HV : Hid (textV code = throwB ++ Lib.itoa code) := e2
    simp only [texts, List.mem_cons, List.not_mem_nil, or_false, forall_eq_or_imp, forall_eq] at e1
    obtain ⟨n1, n2, n3, n4, n5, n6, n7, n8, n9, n10, n11, n12, n13⟩ := e1
    have m1 : (code == -3) = false := by simpa using Ne.symm n1
    have m2 : (code == -4) = false := by simpa using Ne.symm n2
    have m3 : (code == -5) = false := by simpa using Ne.symm n3
    have m4 : (code == -6) = false := by simpa using Ne.symm n4
    have m5 : (code == -8) = false := by simpa using Ne.symm n5
    have m6 : (code == -9) = false := by simpa using Ne.symm n6
    have m7 : (code == -10) = false := by simpa using Ne.symm n7
    have m8 : (code == -13) = false := by simpa using Ne.symm n8
    have m9 : (code == -14) = false := by simpa using Ne.symm n9
    have m10 : (code == -16) = false := by simpa using Ne.symm n10
    have m11 : (code == -22) = false := by simpa using Ne.symm n11
    have m12 : (code == -25) = false := by simpa using Ne.symm n12
    have m13 : (code == -57) = false := by simpa using Ne.symm n13
    clear n1 n2 n3 n4 n5 n6 n7 n8 n9 n10 n11 n12 n13 e2 hi
    have hl := Lib.itoa_length_le code a1 a2
    have hadd : ∀ W, (Op.stringOp .add ⟨throwB.toArray⟩ ⟨(Lib.itoa code).toArray⟩).run Tryd.prog W = .ok (.string ⟨(textV code).toArray⟩) W := fun W => by
      rw [HV.out]; exact run_string_add_lists W _ _ (by simp [throwB]) (by omega)
    unfold throwB at hadd
    clear hl
    go_enter Tryd.func21, Tryd.ntmps21
    go_wp2_with fail
    refine HI.out.mono ?_
    rintro e w' ⟨rfl, rfl⟩
    go_wp2_with fail
    go_ret
    exact ⟨rfl, rfl⟩

/-- No fault, or one that is seen from words. -/
def EV (w : World) (code ip : Int) (ws : List ByteArray) (v : Value) : Prop := (code = 0 ∧ v = .nilIface) ∨ (code ≠ 0 ∧ ErrIs w code ip ws v)
theorem EV.below {w w' : World} {code ip : Int} {ws : List ByteArray} {v : Value} (h : EV w code ip ws v) (hb : Below w.heap.size w w') : EV w' code ip ws v := by
  rcases h with h | ⟨h1, h2⟩
  · exact .inl h
  · exact .inr ⟨h1, h2.below hb⟩
theorem new_ev (code ip : Int) (w : World) : Calls Tryd.prog 20 #[.int .i64 code, .int .i64 ip] w fun e w' => ∃ v, e = .returned v ∧ EV w' code ip [] v ∧ Below w.heap.size w w' := by
  by_cases h : code = 0
  · subst h
    exact (new_zero ip w).mono fun e w' ⟨he, hw⟩ => ⟨_, he, .inl ⟨rfl, rfl⟩, by rw [← hw]; exact Below.refl _ _⟩
  · exact (new_any code ip h w).mono fun e w' ⟨v, he, hv, hb⟩ => ⟨v, he, .inr ⟨h, hv⟩, hb⟩
theorem wrap_ev (code ip : Int) (ws : List ByteArray) (v : Value) (s : ByteArray) (w : World) (H : EV w code ip ws v) :
    Calls Tryd.prog 22 #[v, .string s] w fun e w' => ∃ v', e = .returned v' ∧ EV w' code ip (s :: ws) v' ∧ Below w.heap.size w w' := by
  rcases H with ⟨h, rfl⟩ | ⟨h, H⟩
  · exact (wrap_nil s w).mono fun e w' ⟨he, hw⟩ => ⟨_, he, .inl ⟨h, rfl⟩, by rw [← hw]; exact Below.refl _ _⟩
  · exact (wrap_any code ip ws v s w H).mono fun e w' ⟨v', he, hv, hb⟩ => ⟨v', he, .inr ⟨h, hv⟩, hb⟩

theorem strs_of {H : Type} {enc : TypeId × Value → H} {W : World} {A : Option Addr} {len cap : Nat} {d : DataW H} {p : List MemPlace}
    (h : DataW.Trod enc Tryd.prog W 0 (fun _ => true) true 33 (.slice A len cap) d p) : len ≤ maxLen ∧ ∃ xs : List ByteArray, xs.length = len ∧ (∀ s ∈ xs, s.size ≤ maxLen) ∧ Reads W W.heap.size 1 A len (xs.map .string) := by
  obtain ⟨fuel, hf⟩ := h
  rcases Go.ChangeShapes.open_strings Tryd.underlying33 Tryd.underlying9 (by kernel_rfl) hf with ⟨hcs, _⟩ | ⟨x, l, c, ss, hcs, _, hl, hm, hz, _, hcell, hsz⟩
  · simp [Value.cells] at hcs
    obtain ⟨rfl, rfl, rfl⟩ := hcs
    exact ⟨Nat.zero_le _, [], rfl, by simp, Reads.none_⟩
  · simp [Value.cells] at hcs
    obtain ⟨rfl, rfl, rfl⟩ := hcs
    have hz' : ss.length = cap := by simpa using hz
    refine ⟨by omega, ss.take len, by simp; omega, fun s hs => hsz s (List.mem_of_mem_take hs), by simp; omega, fun hn => ⟨x, rfl, ?_, fun j u hu => ?_⟩⟩
    · have h0 := World.block_lt_of_cell? W _ (hcell 0 (by omega))
      rwa [block_of_add] at h0
    · have hj : j < len := by
        have := (List.getElem?_eq_some_iff.1 hu).1
        simp at this
        omega
      rw [List.getElem?_map, List.getElem?_take_of_lt hj, List.getElem?_eq_getElem (by omega)] at hu
      rw [hcell j (by omega), List.getD_eq_getElem?_getD, List.getElem?_eq_getElem (by omega)]
      simpa using hu

/-- The book's blocks are there. -/
theorem book_cut {w : World} {B b : Nat} {F : Nat → Prop} (H : BkT.Is w B b F) : BkT.Is w B b (fun k => F k ∧ k < w.heap.size) := by
  obtain ⟨v, v', n, R, R', L, h⟩ := H
  have o1 : ∀ k, v.ownBlock = some k → k < w.heap.size := fun k hk => (h.rows.out.lt k hk).2
  have o2 : ∀ k, v'.ownBlock = some k → k < w.heap.size := fun k hk => (h.copies.out.lt k hk).2
  exact ⟨v, v', n, R, R', L, { h with
    fb := ⟨h.fb, h.blk.lt⟩
    fv := fun k hk => ⟨h.fv k hk, o1 k hk⟩
    fv' := fun k hk => ⟨h.fv' k hk, o2 k hk⟩
    fr := fun i hi k hk => ⟨h.fr i hi k hk, ((h.rows.inn i hi).lt hk).2⟩
    fr' := fun i hi k hk => ⟨h.fr' i hi k hk, ((h.copies.inn i hi).lt hk).2⟩ }⟩
end Go.Proofs.YtcfkhbkhejaegaaDoor.Ft
