/-
  Lemmas on the way, for every input that they name: McD.
-/
import Derived.Test.YtompdfpjmdnhoabGreatDoorQ11
import Derived.Test.YtompdfpjmdnhoabGreatDoorQ15
set_option linter.unusedVariables false
set_option linter.unusedSimpArgs false
set_option linter.deprecated false
namespace Go.Proofs.YtompdfpjmdnhoabGreatDoor.Mc
open Go.RowKit Go.Proofs.YtompdfpjmdnhoabGreatDoor.Rs Go.Proofs.YtompdfpjmdnhoabGreatDoor.Ft
theorem reads_new (w : World) (l : List Int) (T : TypeId) : Reads (w.alloc (.cells (ints l).toArray T)) (w.alloc (.cells (ints l).toArray T)).heap.size 1 (some ⟨w.heap.size, 0, none⟩) l.length (ints l) := by
  refine ⟨by simp [ints], fun _ => ⟨_, rfl, by simp, fun j u hj => ?_⟩⟩
  rw [Go.WideShapes.add_plain, World.cell?, heap_alloc_new]
  simpa using hj
section
variable {w w1 w2 : World} {B m : Nat} {sv bv mv : Value} {s s1 s2 : S} {t t1 t2 : Bool}
theorem Goes.held (h : Goes w B m sv bv mv s t s1 t1 w1) : ∃ sv1 bv1, Held w1 B (mach m sv1 bv1 mv s1 t1) := by
  obtain ⟨a, b, N⟩ := h
  exact ⟨a, b, N.held⟩
theorem Goes.of_below {b : Nat} (h : Goes w B m sv bv mv s t s1 t1 w1) (hb : Below b w1 w2) (hs : w1.heap.size ≤ b) : Goes w B m sv bv mv s t s1 t1 w2 := by
  obtain ⟨x, y, N⟩ := h
  exact ⟨x, y, N.trans (Turns.of_below N.held hb hs)⟩
theorem Goes.refl (H : Held w B (mach m sv bv mv s t)) : Goes w B m sv bv mv s t s t w := ⟨sv, bv, Turns.refl H⟩
theorem Goes.from {sv1 bv1 : Value} (N : Turns w B (mach m sv bv mv s t) (mach m sv1 bv1 mv s1 t1) w1) (h : Goes w1 B m sv1 bv1 mv s1 t1 s2 t2 w2) : Goes w B m sv bv mv s t s2 t2 w2 := by
  obtain ⟨x, y, M⟩ := h
  exact ⟨x, y, N.trans M⟩
theorem Goes.drewN (h : Goes w B m sv bv mv s t s1 t1 w1) (n : Nat) : Goes w B m sv bv mv s t s1 t1 (w1.drewN n) := by
  obtain ⟨x, y, M⟩ := h
  exact ⟨x, y, M.drewN n⟩
end
section
variable (B m : Nat) (sv bv mv : Value) (s : S) (t : Bool) (w : World) (H : Held w B (mach m sv bv mv s t)) (hB : B ≤ w.heap.size)
include H hB
theorem push_lit (l : List Int) (vs : Array Value) (hvs : vs = (ints l).toArray) (c n : Nat) (hn : n = l.length) (hs : s.stack.length + l.length ≤ 1000) :
    Calls Tryz.prog 97 #[.pointer (some ⟨m, 0, none⟩), .slice (some ⟨w.heap.size, 0, none⟩) n c] (w.alloc (.cells vs 3)) fun e w' => e = .returned (.tuple #[]) ∧ Goes w B m sv bv mv s t (push s l) t w' := by
  subst hvs hn
  have N := Turns.lone H (.cells (ints l).toArray 3)
  refine (push_any B m sv bv mv s t _ N.held (by simp; omega) _ c _ l rfl (reads_new w l _) hs).mono ?_
  rintro e w' ⟨rfl, g⟩
  exact ⟨rfl, Goes.from N g⟩
theorem back_lit (l : List Int) (vs : Array Value) (hvs : vs = (ints l).toArray) (c n : Nat) (hn : n = l.length) (hs : s.back.length + l.length ≤ 1000) :
    Calls Tryz.prog 93 #[.pointer (some ⟨m, 0, none⟩), .slice (some ⟨w.heap.size, 0, none⟩) n c] (w.alloc (.cells vs 3)) fun e w' => e = .returned (.tuple #[]) ∧ Goes w B m sv bv mv s t (lay s l) t w' := by
  subst hvs hn
  have N := Turns.lone H (.cells (ints l).toArray 3)
  refine (back_any B m sv bv mv s t _ N.held (by simp; omega) _ c _ l rfl (reads_new w l _) hs).mono ?_
  rintro e w' ⟨rfl, g⟩
  exact ⟨rfl, Goes.from N g⟩
end
def Bad (w : World) (code : Int) (e : Ending) (w' : World) : Prop := ∃ v ip ws, e = .returned v ∧ ErrIs w' code ip ws v ∧ Below w.heap.size w w'
set_option maxHeartbeats 1000000 in
theorem fails_any (B m : Nat) (sv bv mv : Value) (s : S) (t : Bool) (w : World) (H : Held w B (mach m sv bv mv s t)) (code : Int) (hc : code ≠ 0) :
    Calls Tryz.prog 67 #[.pointer (some ⟨m, 0, none⟩), .int .i64 code] w (Bad w code) := by
  have k := m_blk H
  have c0 : w.cell? ⟨m, 0, none⟩ = some (.int .i64 s.ip) := k.cell 0
  have HN := Lib.hid (new_any code s.ip hc w)
  clear k H hc
  go_enter Tryz.func67, Tryz.ntmps67
  go_wp2_with fail
  refine HN.out.mono ?_
  rintro e w' ⟨v, rfl, h1, h2⟩
  have Hr : Hid (Bad w code (.returned v) w') := ⟨v, _, _, rfl, h1, h2⟩
  obtain ⟨T, p, rfl⟩ := h1.form
  clear h1 h2
  go_wp2_with fail
  go_ret
  exact Hr.out
set_option maxHeartbeats 1000000 in
theorem load_yes (B m : Nat) (sv bv mv : Value) (s : S) (t : Bool) (w : World) (H : Held w B (mach m sv bv mv s t)) (i : Nat) (hi : i < s.mem.length) (hm : s.mem.length ≤ 5000) :
    Calls Tryz.prog 65 #[.pointer (some ⟨m, 0, none⟩), .int .i64 i] w fun e w' => e = .returned (.tuple #[.int .i64 (s.mem.getD i 0), .nilIface]) ∧ w = w' := by
  obtain ⟨g, c, rfl, hc, hb, hg, hcell, hfz⟩ := (m_mem H).form (by omega)
  have k := m_blk H
  have c4 : w.cell? ⟨m, 4, none⟩ = some (.slice (some ⟨g, 0, none⟩) s.mem.length (c + 1)) := k.cell 4
  have hx := hcell i (by omega)
  rw [ints_get _ _ hi] at hx
  have hi' : (i : Int) < (s.mem.length : Int) := by omega
  have hn : ¬ (s.mem.length : Int) ≤ (i : Int) := by omega
  have hd : decide (s.mem.length ≤ i) = false := by simpa using hi
  generalize s.mem.getD i 0 = x at *
  generalize s.mem.length = n at *
  clear hcell hfz k H
  go_enter Tryz.func65, Tryz.ntmps65
  go_wp2_with fail
  go_ret2
  exact ⟨rfl, rfl⟩
set_option maxHeartbeats 1000000 in
theorem load_no (B m : Nat) (sv bv mv : Value) (s : S) (t : Bool) (w : World) (H : Held w B (mach m sv bv mv s t)) (a : Int) (ha : a < 0 ∨ (s.mem.length : Int) ≤ a) (hm : s.mem.length ≤ 5000) :
    Calls Tryz.prog 65 #[.pointer (some ⟨m, 0, none⟩), .int .i64 a] w fun e w' => ∃ v ip ws, e = .returned (.tuple #[.int .i64 0, v]) ∧ ErrIs w' (-9) ip ws v ∧ Below w.heap.size w w' := by
  obtain ⟨MA, mc, rfl⟩ := (m_mem H).slice
  have k := m_blk H
  have c4 : w.cell? ⟨m, 4, none⟩ = some (.slice MA s.mem.length mc) := k.cell 4
  have HF := Lib.hid (fails_any B m sv bv _ s t w H (-9) (by decide))
  generalize s.mem.length = n at *
  clear k H
  rcases ha with ha | ha
  · go_enter Tryz.func65, Tryz.ntmps65
    go_wp2_with fail
    refine HF.out.mono ?_
    rintro e w1 ⟨v, ip, ws, rfl, h1, h2⟩
    have HW := Lib.hid (wrap_any (-9) ip _ v ⟨#[99, 101, 108, 108]⟩ w1 h1)
    have H2 := Lib.hid h2
    obtain ⟨T, p, rfl⟩ := h1.form
    clear h1 h2 HF
    go_wp2_with fail
    refine HW.out.mono ?_
    rintro e w2 ⟨v', rfl, h3, h4⟩
    have H3 := Lib.hid h3
    have H4 := Lib.hid h4
    obtain ⟨T', p', rfl⟩ := h3.form
    clear h3 h4
    go_wp2_with fail
    go_ret2
    exact ⟨_, _, _, rfl, H3.out, H2.out.trans (H4.out.mono H2.out.size)⟩
  · have hn : ¬ a < 0 := by omega
    go_enter Tryz.func65, Tryz.ntmps65
    go_wp2_with fail
    refine HF.out.mono ?_
    rintro e w1 ⟨v, ip, ws, rfl, h1, h2⟩
    have HW := Lib.hid (wrap_any (-9) ip _ v ⟨#[99, 101, 108, 108]⟩ w1 h1)
    have H2 := Lib.hid h2
    obtain ⟨T, p, rfl⟩ := h1.form
    clear h1 h2 HF
    go_wp2_with fail
    refine HW.out.mono ?_
    rintro e w2 ⟨v', rfl, h3, h4⟩
    have H3 := Lib.hid h3
    have H4 := Lib.hid h4
    obtain ⟨T', p', rfl⟩ := h3.form
    clear h3 h4
    go_wp2_with fail
    go_ret2
    exact ⟨_, _, _, rfl, H3.out, H2.out.trans (H4.out.mono H2.out.size)⟩
end Go.Proofs.YtompdfpjmdnhoabGreatDoor.Mc
