/-
  Lemmas on the way, for every input that they name: McE.
-/
import Derived.StillTailTactics
import Derived.Test.YtompdfpjmdnhoabGreatDoorQ16
set_option linter.unusedVariables false
set_option linter.unusedSimpArgs false
set_option linter.deprecated false
namespace Go.Proofs.YtompdfpjmdnhoabGreatDoor.Mc
open Go.RowKit Go.Proofs.YtompdfpjmdnhoabGreatDoor.Rs Go.Proofs.YtompdfpjmdnhoabGreatDoor.Ft
section
variable {w w1 : World} {B m : Nat} {sv bv mv : Value} {s s1 : S} {t t1 : Bool}
theorem Goes.ip (h : Goes w B m sv bv mv s t s1 t1 w1) (x : Int) : Goes w B m sv bv mv s t { s1 with ip := x } t1 (w1.setCell ⟨m, 0, none⟩ (.int .i64 x)) := by
  obtain ⟨a, b, N⟩ := h
  exact ⟨a, b, N.trans (Turns.set N.held 0 (.int .i64 x))⟩
theorem Goes.handler (h : Goes w B m sv bv mv s t s1 t1 w1) (x : Int) : Goes w B m sv bv mv s t { s1 with handler := x } t1 (w1.setCell ⟨m, 1, none⟩ (.int .i64 x)) := by
  obtain ⟨a, b, N⟩ := h
  exact ⟨a, b, N.trans (Turns.set N.held 1 (.int .i64 x))⟩
theorem Goes.out (h : Goes w B m sv bv mv s t s1 t1 w1) (x : ByteArray) : Goes w B m sv bv mv s t { s1 with out := x } t1 (w1.setCell ⟨m, 5, none⟩ (.string x)) := by
  obtain ⟨a, b, N⟩ := h
  exact ⟨a, b, N.trans (Turns.set N.held 5 (.string x))⟩
theorem Goes.read (h : Goes w B m sv bv mv s t s1 t1 w1) (x : Int) : Goes w B m sv bv mv s t { s1 with read := x } t1 (w1.setCell ⟨m, 7, none⟩ (.int .i64 x)) := by
  obtain ⟨a, b, N⟩ := h
  exact ⟨a, b, N.trans (Turns.set N.held 7 (.int .i64 x))⟩
theorem Goes.status (h : Goes w B m sv bv mv s t s1 t1 w1) (x : Int) : Goes w B m sv bv mv s t { s1 with status := x } t1 (w1.setCell ⟨m, 8, none⟩ (.int .i64 x)) := by
  obtain ⟨a, b, N⟩ := h
  exact ⟨a, b, N.trans (Turns.set N.held 8 (.int .i64 x))⟩
theorem Goes.threw (h : Goes w B m sv bv mv s t s1 t1 w1) (x : Bool) : Goes w B m sv bv mv s t s1 x (w1.setCell ⟨m, 10, none⟩ (.bool x)) := by
  obtain ⟨a, b, N⟩ := h
  exact ⟨a, b, N.trans (Turns.set N.held 10 (.bool x))⟩
theorem Goes.then_ {w2 : World} {s2 : S} {t2 : Bool} {sv1 bv1 : Value} (h : Goes w1 B m sv1 bv1 mv s1 t1 s2 t2 w2) (N : Turns w B (mach m sv bv mv s t) (mach m sv1 bv1 mv s1 t1) w1) : Goes w B m sv bv mv s t s2 t2 w2 := Goes.from N h
theorem ne_of_pos {l : List Int} (h : 0 < l.length) : l ≠ [] := by rintro rfl; simp at h
end
set_option maxHeartbeats 1000000 in
set_option maxRecDepth 100000 in
theorem swapped_any (B m : Nat) (sv bv mv : Value) (s : S) (t : Bool) (w : World) (H : Held w B (mach m sv bv mv s t)) (hs : s.stack ≠ []) (hs2 : s.stack.length ≤ 1000) : Calls Tryz.prog 133 #[.pointer (some ⟨m, 0, none⟩)] w fun e w' => e = .returned (.int .i64 (top s.stack)) ∧ Goes w B m sv bv mv s t (pop s) t w' := by
  have HP := Lib.hid (pop_any B m sv bv mv s t w H hs hs2)
  generalize top s.stack = x at *
  clear H
  go_enter Tryz.func133, Tryz.ntmps133
  go_wp2_with fail
  refine HP.out.mono ?_
  rintro e w1 ⟨rfl, g⟩
  have G := Lib.hid g
  clear g
  go_wp2_with fail
  go_ret
  exact ⟨rfl, G.out⟩
set_option maxHeartbeats 1000000 in
set_option maxRecDepth 100000 in
theorem call_ok (B m : Nat) (sv bv mv : Value) (s : S) (t : Bool) (w : World) (H : Held w B (mach m sv bv mv s t)) (hB : B ≤ w.heap.size) (xt : Int) (hb : s.back.length < 48) (h0 : 0 ≤ s.ip) (h1 : s.ip ≤ 5000) : Calls Tryz.prog 66 #[.pointer (some ⟨m, 0, none⟩), .int .i64 xt] w fun e w' => e = .returned .nilIface ∧ Goes w B m sv bv mv s t { lay s [s.ip + 1] with ip := xt } t w' := by
  obtain ⟨BA, bc, rfl⟩ := (m_back H).slice
  have k := m_blk H
  have c3 : w.cell? ⟨m, 3, none⟩ = some (.slice BA s.back.length bc) := k.cell 3
  have c0 : w.cell? ⟨m, 0, none⟩ = some (.int .i64 s.ip) := k.cell 0
  have HB := Lib.hid (back_lit B m _ _ mv s t w H hB [s.ip + 1] _ rfl 1 1 rfl (by simp; omega))
  have hd : decide (48 ≤ s.back.length) = false := by simpa using hb
  generalize s.back.length = n at *
  clear k H
  go_enter Tryz.func66, Tryz.ntmps66
  go_wp2_with fail
  refine HB.out.mono ?_
  rintro e w1 ⟨rfl, sv1, bv1, N⟩
  have k1 := m_blk N.held
  have d0 : w1.cell? ⟨m, 0, none⟩ = some (.int .i64 s.ip) := k1.cell 0
  have f0 := k1.frozen 0
  have G := Lib.hid (Goes.ip (⟨sv1, bv1, N⟩ : Goes w B m _ _ mv s t _ _ w1) xt)
  clear N k1 HB
  go_wp2_with fail
  go_ret
  exact ⟨rfl, G.out⟩
set_option maxHeartbeats 1000000 in
set_option maxRecDepth 100000 in
theorem call_bad (B m : Nat) (sv bv mv : Value) (s : S) (t : Bool) (w : World) (H : Held w B (mach m sv bv mv s t)) (xt : Int) (hb : 48 ≤ s.back.length) : Calls Tryz.prog 66 #[.pointer (some ⟨m, 0, none⟩), .int .i64 xt] w (Bad w (-5)) := by
  obtain ⟨BA, bc, rfl⟩ := (m_back H).slice
  have k := m_blk H
  have c3 : w.cell? ⟨m, 3, none⟩ = some (.slice BA s.back.length bc) := k.cell 3
  have HF := Lib.hid (fails_any B m sv _ mv s t w H (-5) (by decide))
  have hd : decide (48 ≤ s.back.length) = true := by simpa using hb
  generalize s.back.length = n at *
  clear k H
  go_enter Tryz.func66, Tryz.ntmps66
  go_wp2_with fail
  refine HF.out.mono ?_
  rintro e w1 ⟨v, ip, ws, rfl, h1, h2⟩
  have Hr : Hid (Bad w (-5) (.returned v) w1) := ⟨v, _, _, rfl, h1, h2⟩
  obtain ⟨T, p, rfl⟩ := h1.form
  clear h1 h2 HF
  go_wp2_with fail
  go_ret
  exact Hr.out
set_option maxHeartbeats 1000000 in
set_option maxRecDepth 100000 in
theorem shuffle6 (B m : Nat) (sv bv mv : Value) (s : S) (t : Bool) (w : World) (H : Held w B (mach m sv bv mv s t)) (hB : B ≤ w.heap.size) (hs : 1 ≤ s.stack.length) (hs2 : s.stack.length ≤ 100) : Calls Tryz.prog 100 #[.pointer (some ⟨m, 0, none⟩), .int .i64 6] w (fun e w' => e = .returned (.tuple #[]) ∧ Goes w B m sv bv mv s t (shuffle s 6) t w') := by
  have p1 : s.stack.dropLast.length = s.stack.length - 1 := List.length_dropLast
  have p2 : s.stack.dropLast.dropLast.length = s.stack.length - 2 := by simp [List.length_dropLast]; omega
  have p3 : s.stack.dropLast.dropLast.dropLast.length = s.stack.length - 3 := by simp [List.length_dropLast]; omega
  have P1 := Lib.hid p1
  have P2 := Lib.hid p2
  have P3 := Lib.hid p3
  clear p1 p2 p3
  go_enter Tryz.func100, Tryz.ntmps100
  go_wp2_with fail
  refine (pop_any B m _ _ mv s t _ H (ne_of_pos (by omega)) (by omega)).mono ?_
  rintro e w1 ⟨rfl, sv1, bv1, N1⟩
  have K1 := Lib.hid N1.held
  have G1 := Lib.hid (⟨sv1, bv1, N1⟩ : Goes w B m sv bv mv s t (pop s) _ w1)
  have M1 := Lib.hid N1
  have hb1 : B ≤ w1.heap.size := Nat.le_trans hB N1.touch.size
  clear N1
  go_wp2_with fail
  refine (push_lit B m _ _ mv (pop s) t _ K1.out hb1 [top s.stack, top s.stack] _ rfl _ _ rfl (by show s.stack.dropLast.length + 2 ≤ 1000; rw [P1.out]; omega)).mono ?_
  rintro e w2 ⟨rfl, sv2, bv2, N2⟩
  have K2 := Lib.hid N2.held
  have G2 := Lib.hid (Goes.then_ ⟨sv2, bv2, N2⟩ M1.out : Goes w B m sv bv mv s t (push (pop s) [top s.stack, top s.stack]) _ w2)
  have M2 := Lib.hid (M1.out.trans N2)
  have hb2 : B ≤ w2.heap.size := Nat.le_trans hb1 N2.touch.size
  clear N2
  go_wp2_with fail
  go_end0
  exact ⟨rfl, G2.out⟩
set_option maxHeartbeats 1000000 in
set_option maxRecDepth 100000 in
theorem shuffle7 (B m : Nat) (sv bv mv : Value) (s : S) (t : Bool) (w : World) (H : Held w B (mach m sv bv mv s t)) (hB : B ≤ w.heap.size) (hs : 1 ≤ s.stack.length) (hs2 : s.stack.length ≤ 100) : Calls Tryz.prog 100 #[.pointer (some ⟨m, 0, none⟩), .int .i64 7] w (fun e w' => e = .returned (.tuple #[]) ∧ Goes w B m sv bv mv s t (shuffle s 7) t w') := by
  have p1 : s.stack.dropLast.length = s.stack.length - 1 := List.length_dropLast
  have p2 : s.stack.dropLast.dropLast.length = s.stack.length - 2 := by simp [List.length_dropLast]; omega
  have p3 : s.stack.dropLast.dropLast.dropLast.length = s.stack.length - 3 := by simp [List.length_dropLast]; omega
  have P1 := Lib.hid p1
  have P2 := Lib.hid p2
  have P3 := Lib.hid p3
  clear p1 p2 p3
  go_enter Tryz.func100, Tryz.ntmps100
  go_wp2_with fail
  refine (pop_any B m _ _ mv s t _ H (ne_of_pos (by omega)) (by omega)).mono ?_
  rintro e w1 ⟨rfl, sv1, bv1, N1⟩
  have K1 := Lib.hid N1.held
  have G1 := Lib.hid (⟨sv1, bv1, N1⟩ : Goes w B m sv bv mv s t (pop s) _ w1)
  have M1 := Lib.hid N1
  have hb1 : B ≤ w1.heap.size := Nat.le_trans hB N1.touch.size
  clear N1
  go_wp2_with fail
  go_end0
  exact ⟨rfl, G1.out⟩
set_option maxHeartbeats 1000000 in
set_option maxRecDepth 100000 in
theorem shuffle8 (B m : Nat) (sv bv mv : Value) (s : S) (t : Bool) (w : World) (H : Held w B (mach m sv bv mv s t)) (hB : B ≤ w.heap.size) (hs : 2 ≤ s.stack.length) (hs2 : s.stack.length ≤ 100) : Calls Tryz.prog 100 #[.pointer (some ⟨m, 0, none⟩), .int .i64 8] w (fun e w' => e = .returned (.tuple #[]) ∧ Goes w B m sv bv mv s t (shuffle s 8) t w') := by
  have p1 : s.stack.dropLast.length = s.stack.length - 1 := List.length_dropLast
  have p2 : s.stack.dropLast.dropLast.length = s.stack.length - 2 := by simp [List.length_dropLast]; omega
  have p3 : s.stack.dropLast.dropLast.dropLast.length = s.stack.length - 3 := by simp [List.length_dropLast]; omega
  have P1 := Lib.hid p1
  have P2 := Lib.hid p2
  have P3 := Lib.hid p3
  clear p1 p2 p3
  go_enter Tryz.func100, Tryz.ntmps100
  go_wp2_with fail
  refine (pop_any B m _ _ mv s t _ H (ne_of_pos (by omega)) (by omega)).mono ?_
  rintro e w1 ⟨rfl, sv1, bv1, N1⟩
  have K1 := Lib.hid N1.held
  have G1 := Lib.hid (⟨sv1, bv1, N1⟩ : Goes w B m sv bv mv s t (pop s) _ w1)
  have M1 := Lib.hid N1
  have hb1 : B ≤ w1.heap.size := Nat.le_trans hB N1.touch.size
  clear N1
  go_wp2_with fail
  refine (swapped_any B m _ _ mv (pop s) t _ K1.out (ne_of_pos (by show 0 < s.stack.dropLast.length; rw [P1.out]; omega)) (by show s.stack.dropLast.length ≤ 1000; rw [P1.out]; omega)).mono ?_
  rintro e w2 ⟨rfl, sv2, bv2, N2⟩
  have K2 := Lib.hid N2.held
  have G2 := Lib.hid (Goes.then_ ⟨sv2, bv2, N2⟩ M1.out : Goes w B m sv bv mv s t (pop (pop s)) _ w2)
  have M2 := Lib.hid (M1.out.trans N2)
  have hb2 : B ≤ w2.heap.size := Nat.le_trans hb1 N2.touch.size
  clear N2
  go_wp2_with fail
  refine (push_lit B m _ _ mv (pop (pop s)) t _ K2.out hb2 [top s.stack, top (pop s).stack] _ rfl _ _ rfl (by show s.stack.dropLast.dropLast.length + 2 ≤ 1000; rw [P2.out]; omega)).mono ?_
  rintro e w3 ⟨rfl, sv3, bv3, N3⟩
  have K3 := Lib.hid N3.held
  have G3 := Lib.hid (Goes.then_ ⟨sv3, bv3, N3⟩ M2.out : Goes w B m sv bv mv s t (push (pop (pop s)) [top s.stack, top (pop s).stack]) _ w3)
  have M3 := Lib.hid (M2.out.trans N3)
  have hb3 : B ≤ w3.heap.size := Nat.le_trans hb2 N3.touch.size
  clear N3
  go_wp2_with fail
  go_end0
  exact ⟨rfl, G3.out⟩
set_option maxHeartbeats 1000000 in
set_option maxRecDepth 100000 in
theorem shuffle9 (B m : Nat) (sv bv mv : Value) (s : S) (t : Bool) (w : World) (H : Held w B (mach m sv bv mv s t)) (hB : B ≤ w.heap.size) (hs : 2 ≤ s.stack.length) (hs2 : s.stack.length ≤ 100) : Calls Tryz.prog 100 #[.pointer (some ⟨m, 0, none⟩), .int .i64 9] w (fun e w' => e = .returned (.tuple #[]) ∧ Goes w B m sv bv mv s t (shuffle s 9) t w') := by
  have p1 : s.stack.dropLast.length = s.stack.length - 1 := List.length_dropLast
  have p2 : s.stack.dropLast.dropLast.length = s.stack.length - 2 := by simp [List.length_dropLast]; omega
  have p3 : s.stack.dropLast.dropLast.dropLast.length = s.stack.length - 3 := by simp [List.length_dropLast]; omega
  have P1 := Lib.hid p1
  have P2 := Lib.hid p2
  have P3 := Lib.hid p3
  clear p1 p2 p3
  go_enter Tryz.func100, Tryz.ntmps100
  go_wp2_with fail
  refine (pop_any B m _ _ mv s t _ H (ne_of_pos (by omega)) (by omega)).mono ?_
  rintro e w1 ⟨rfl, sv1, bv1, N1⟩
  have K1 := Lib.hid N1.held
  have G1 := Lib.hid (⟨sv1, bv1, N1⟩ : Goes w B m sv bv mv s t (pop s) _ w1)
  have M1 := Lib.hid N1
  have hb1 : B ≤ w1.heap.size := Nat.le_trans hB N1.touch.size
  clear N1
  go_wp2_with fail
  refine (pop_any B m _ _ mv (pop s) t _ K1.out (ne_of_pos (by show 0 < s.stack.dropLast.length; rw [P1.out]; omega)) (by show s.stack.dropLast.length ≤ 1000; rw [P1.out]; omega)).mono ?_
  rintro e w2 ⟨rfl, sv2, bv2, N2⟩
  have K2 := Lib.hid N2.held
  have G2 := Lib.hid (Goes.then_ ⟨sv2, bv2, N2⟩ M1.out : Goes w B m sv bv mv s t (pop (pop s)) _ w2)
  have M2 := Lib.hid (M1.out.trans N2)
  have hb2 : B ≤ w2.heap.size := Nat.le_trans hb1 N2.touch.size
  clear N2
  go_wp2_with fail
  refine (push_lit B m _ _ mv (pop (pop s)) t _ K2.out hb2 [top (pop s).stack, top s.stack, top (pop s).stack] _ rfl _ _ rfl (by show s.stack.dropLast.dropLast.length + 3 ≤ 1000; rw [P2.out]; omega)).mono ?_
  rintro e w3 ⟨rfl, sv3, bv3, N3⟩
  have K3 := Lib.hid N3.held
  have G3 := Lib.hid (Goes.then_ ⟨sv3, bv3, N3⟩ M2.out : Goes w B m sv bv mv s t (push (pop (pop s)) [top (pop s).stack, top s.stack, top (pop s).stack]) _ w3)
  have M3 := Lib.hid (M2.out.trans N3)
  have hb3 : B ≤ w3.heap.size := Nat.le_trans hb2 N3.touch.size
  clear N3
  go_wp2_with fail
  go_end0
  exact ⟨rfl, G3.out⟩
set_option maxHeartbeats 1000000 in
set_option maxRecDepth 100000 in
theorem shuffle10 (B m : Nat) (sv bv mv : Value) (s : S) (t : Bool) (w : World) (H : Held w B (mach m sv bv mv s t)) (hB : B ≤ w.heap.size) (hs : 3 ≤ s.stack.length) (hs2 : s.stack.length ≤ 100) : Calls Tryz.prog 100 #[.pointer (some ⟨m, 0, none⟩), .int .i64 10] w (fun e w' => e = .returned (.tuple #[]) ∧ Goes w B m sv bv mv s t (shuffle s 10) t w') := by
  have p1 : s.stack.dropLast.length = s.stack.length - 1 := List.length_dropLast
  have p2 : s.stack.dropLast.dropLast.length = s.stack.length - 2 := by simp [List.length_dropLast]; omega
  have p3 : s.stack.dropLast.dropLast.dropLast.length = s.stack.length - 3 := by simp [List.length_dropLast]; omega
  have P1 := Lib.hid p1
  have P2 := Lib.hid p2
  have P3 := Lib.hid p3
  clear p1 p2 p3
  go_enter Tryz.func100, Tryz.ntmps100
  go_wp2_with fail
  refine (pop_any B m _ _ mv s t _ H (ne_of_pos (by omega)) (by omega)).mono ?_
  rintro e w1 ⟨rfl, sv1, bv1, N1⟩
  have K1 := Lib.hid N1.held
  have G1 := Lib.hid (⟨sv1, bv1, N1⟩ : Goes w B m sv bv mv s t (pop s) _ w1)
  have M1 := Lib.hid N1
  have hb1 : B ≤ w1.heap.size := Nat.le_trans hB N1.touch.size
  clear N1
  go_wp2_with fail
  refine (pop_any B m _ _ mv (pop s) t _ K1.out (ne_of_pos (by show 0 < s.stack.dropLast.length; rw [P1.out]; omega)) (by show s.stack.dropLast.length ≤ 1000; rw [P1.out]; omega)).mono ?_
  rintro e w2 ⟨rfl, sv2, bv2, N2⟩
  have K2 := Lib.hid N2.held
  have G2 := Lib.hid (Goes.then_ ⟨sv2, bv2, N2⟩ M1.out : Goes w B m sv bv mv s t (pop (pop s)) _ w2)
  have M2 := Lib.hid (M1.out.trans N2)
  have hb2 : B ≤ w2.heap.size := Nat.le_trans hb1 N2.touch.size
  clear N2
  go_wp2_with fail
  refine (pop_any B m _ _ mv (pop (pop s)) t _ K2.out (ne_of_pos (by show 0 < s.stack.dropLast.dropLast.length; rw [P2.out]; omega)) (by show s.stack.dropLast.dropLast.length ≤ 1000; rw [P2.out]; omega)).mono ?_
  rintro e w3 ⟨rfl, sv3, bv3, N3⟩
  have K3 := Lib.hid N3.held
  have G3 := Lib.hid (Goes.then_ ⟨sv3, bv3, N3⟩ M2.out : Goes w B m sv bv mv s t (pop (pop (pop s))) _ w3)
  have M3 := Lib.hid (M2.out.trans N3)
  have hb3 : B ≤ w3.heap.size := Nat.le_trans hb2 N3.touch.size
  clear N3
  go_wp2_with fail
  refine (push_lit B m _ _ mv (pop (pop (pop s))) t _ K3.out hb3 [top (pop s).stack, top s.stack, top (pop (pop s)).stack] _ rfl _ _ rfl (by show s.stack.dropLast.dropLast.dropLast.length + 3 ≤ 1000; rw [P3.out]; omega)).mono ?_
  rintro e w4 ⟨rfl, sv4, bv4, N4⟩
  have K4 := Lib.hid N4.held
  have G4 := Lib.hid (Goes.then_ ⟨sv4, bv4, N4⟩ M3.out : Goes w B m sv bv mv s t (push (pop (pop (pop s))) [top (pop s).stack, top s.stack, top (pop (pop s)).stack]) _ w4)
  have M4 := Lib.hid (M3.out.trans N4)
  have hb4 : B ≤ w4.heap.size := Nat.le_trans hb3 N4.touch.size
  clear N4
  go_wp2_with fail
  go_end0
  exact ⟨rfl, G4.out⟩
set_option maxHeartbeats 1000000 in
set_option maxRecDepth 100000 in
theorem backs33 (B m : Nat) (sv bv mv : Value) (s : S) (t : Bool) (w : World) (H : Held w B (mach m sv bv mv s t)) (hB : B ≤ w.heap.size) (hs : 1 ≤ s.stack.length) (hs2 : s.stack.length ≤ 100) (hb2 : s.back.length ≤ 100) : Calls Tryz.prog 102 #[.pointer (some ⟨m, 0, none⟩), .int .i64 33] w (fun e w' => e = .returned (.tuple #[]) ∧ Goes w B m sv bv mv s t (backs s 33) t w') := by
  have p1 : s.stack.dropLast.length = s.stack.length - 1 := List.length_dropLast
  have P1 := Lib.hid p1
  clear p1
  go_enter Tryz.func102, Tryz.ntmps102
  go_wp2_with fail
  refine (pop_any B m _ _ mv s t _ H (ne_of_pos (by omega)) (by omega)).mono ?_
  rintro e w1 ⟨rfl, sv1, bv1, N1⟩
  have K1 := Lib.hid N1.held
  have G1 := Lib.hid (⟨sv1, bv1, N1⟩ : Goes w B m sv bv mv s t (pop s) _ w1)
  have M1 := Lib.hid N1
  have hb1 : B ≤ w1.heap.size := Nat.le_trans hB N1.touch.size
  clear N1
  go_wp2_with fail
  refine (back_lit B m _ _ mv (pop s) t _ K1.out hb1 [top s.stack] _ rfl _ _ rfl (by show s.back.length + 1 ≤ 1000; omega)).mono ?_
  rintro e w2 ⟨rfl, sv2, bv2, N2⟩
  have K2 := Lib.hid N2.held
  have G2 := Lib.hid (Goes.then_ ⟨sv2, bv2, N2⟩ M1.out : Goes w B m sv bv mv s t (lay (pop s) [top s.stack]) _ w2)
  have M2 := Lib.hid (M1.out.trans N2)
  have hb2 : B ≤ w2.heap.size := Nat.le_trans hb1 N2.touch.size
  clear N2
  go_wp2_with fail
  go_end0
  exact ⟨rfl, G2.out⟩
set_option maxHeartbeats 1000000 in
set_option maxRecDepth 100000 in
theorem backs34 (B m : Nat) (sv bv mv : Value) (s : S) (t : Bool) (w : World) (H : Held w B (mach m sv bv mv s t)) (hB : B ≤ w.heap.size) (hs : 1 ≤ s.back.length) (hs2 : s.stack.length ≤ 100) (hb2 : s.back.length ≤ 100) : Calls Tryz.prog 102 #[.pointer (some ⟨m, 0, none⟩), .int .i64 34] w (fun e w' => e = .returned (.tuple #[]) ∧ Goes w B m sv bv mv s t (backs s 34) t w') := by
  have p1 : s.stack.dropLast.length = s.stack.length - 1 := List.length_dropLast
  have P1 := Lib.hid p1
  clear p1
  go_enter Tryz.func102, Tryz.ntmps102
  go_wp2_with fail
  refine (popBack_any B m _ _ mv s t _ H (ne_of_pos (by omega)) (by omega)).mono ?_
  rintro e w1 ⟨rfl, sv1, bv1, N1⟩
  have K1 := Lib.hid N1.held
  have G1 := Lib.hid (⟨sv1, bv1, N1⟩ : Goes w B m sv bv mv s t (popBack s) _ w1)
  have M1 := Lib.hid N1
  have hb1 : B ≤ w1.heap.size := Nat.le_trans hB N1.touch.size
  clear N1
  go_wp2_with fail
  refine (push_lit B m _ _ mv (popBack s) t _ K1.out hb1 [top s.back] _ rfl _ _ rfl (by show s.stack.length + 1 ≤ 1000; omega)).mono ?_
  rintro e w2 ⟨rfl, sv2, bv2, N2⟩
  have K2 := Lib.hid N2.held
  have G2 := Lib.hid (Goes.then_ ⟨sv2, bv2, N2⟩ M1.out : Goes w B m sv bv mv s t (push (popBack s) [top s.back]) _ w2)
  have M2 := Lib.hid (M1.out.trans N2)
  have hb2 : B ≤ w2.heap.size := Nat.le_trans hb1 N2.touch.size
  clear N2
  go_wp2_with fail
  go_end0
  exact ⟨rfl, G2.out⟩
set_option maxHeartbeats 1000000 in
set_option maxRecDepth 100000 in
theorem backs36 (B m : Nat) (sv bv mv : Value) (s : S) (t : Bool) (w : World) (H : Held w B (mach m sv bv mv s t)) (hB : B ≤ w.heap.size) (hs : 2 ≤ s.stack.length) (hs2 : s.stack.length ≤ 100) (hb2 : s.back.length ≤ 100) : Calls Tryz.prog 102 #[.pointer (some ⟨m, 0, none⟩), .int .i64 36] w (fun e w' => e = .returned (.tuple #[]) ∧ Goes w B m sv bv mv s t (backs s 36) t w') := by
  have p1 : s.stack.dropLast.length = s.stack.length - 1 := List.length_dropLast
  have P1 := Lib.hid p1
  clear p1
  go_enter Tryz.func102, Tryz.ntmps102
  go_wp2_with fail
  refine (pop_any B m _ _ mv s t _ H (ne_of_pos (by omega)) (by omega)).mono ?_
  rintro e w1 ⟨rfl, sv1, bv1, N1⟩
  have K1 := Lib.hid N1.held
  have G1 := Lib.hid (⟨sv1, bv1, N1⟩ : Goes w B m sv bv mv s t (pop s) _ w1)
  have M1 := Lib.hid N1
  have hb1 : B ≤ w1.heap.size := Nat.le_trans hB N1.touch.size
  clear N1
  go_wp2_with fail
  refine (pop_any B m _ _ mv (pop s) t _ K1.out (ne_of_pos (by show 0 < s.stack.dropLast.length; rw [P1.out]; omega)) (by show s.stack.dropLast.length ≤ 1000; rw [P1.out]; omega)).mono ?_
  rintro e w2 ⟨rfl, sv2, bv2, N2⟩
  have K2 := Lib.hid N2.held
  have G2 := Lib.hid (Goes.then_ ⟨sv2, bv2, N2⟩ M1.out : Goes w B m sv bv mv s t (pop (pop s)) _ w2)
  have M2 := Lib.hid (M1.out.trans N2)
  have hb2 : B ≤ w2.heap.size := Nat.le_trans hb1 N2.touch.size
  clear N2
  go_wp2_with fail
  refine (back_lit B m _ _ mv (pop (pop s)) t _ K2.out hb2 [top (pop s).stack, top s.stack] _ rfl _ _ rfl (by show s.back.length + 2 ≤ 1000; omega)).mono ?_
  rintro e w3 ⟨rfl, sv3, bv3, N3⟩
  have K3 := Lib.hid N3.held
  have G3 := Lib.hid (Goes.then_ ⟨sv3, bv3, N3⟩ M2.out : Goes w B m sv bv mv s t (lay (pop (pop s)) [top (pop s).stack, top s.stack]) _ w3)
  have M3 := Lib.hid (M2.out.trans N3)
  have hb3 : B ≤ w3.heap.size := Nat.le_trans hb2 N3.touch.size
  clear N3
  go_wp2_with fail
  go_end0
  exact ⟨rfl, G3.out⟩
set_option maxHeartbeats 1000000 in
set_option maxRecDepth 100000 in
theorem backs35 (B m : Nat) (sv bv mv : Value) (s : S) (t : Bool) (w : World) (H : Held w B (mach m sv bv mv s t)) (hB : B ≤ w.heap.size) (hs : 1 ≤ s.back.length) (hs2 : s.stack.length ≤ 100) (hb2 : s.back.length ≤ 100) : Calls Tryz.prog 102 #[.pointer (some ⟨m, 0, none⟩), .int .i64 35] w (fun e w' => e = .returned (.tuple #[]) ∧ Goes w B m sv bv mv s t (backs s 35) t w') := by
  obtain ⟨g, c, rfl, hc, hb, hg, hcell, hfz⟩ := (m_back H).form (by omega)
  have k := m_blk H
  have c3 : w.cell? ⟨m, 3, none⟩ = some (.slice (some ⟨g, 0, none⟩) s.back.length (c + 1)) := k.cell 3
  obtain ⟨n, hn⟩ : ∃ n : Nat, s.back.length = n + 1 := ⟨s.back.length - 1, by omega⟩
  have hx := hcell n (by omega)
  rw [ints_get _ _ (by omega)] at hx
  have HP := Lib.hid (push_lit B m _ _ mv s t w.drew H.drew hB [s.back.getD n 0] _ rfl 1 1 rfl (by simp; omega))
  have hfin : push s [s.back.getD n 0] = backs s 35 := by show push s _ = push s _; unfold top; rw [show s.back.length - 1 = n by omega]
  rw [hfin] at HP
  have HM := Lib.hid (Turns.refl H).drew
  generalize s.back.getD n 0 = x at *
  rw [hn] at c3 hc
  have h1 : ((n + 1 : Nat) : Int) - 1 = (n : Int) := by omega
  have h3 : IntKind.i64.wrap (n : Int) = (n : Int) := IntWalk.i64_in _ (by omega)
  have h4 : (0 : Int) ≤ (n : Int) := by omega
  have h5 : (n : Int) < ((n + 1 : Nat) : Int) := by omega
  clear k hcell hfz hfin hb hg hb2 hs2 hs hn
  go_enter Tryz.func102, Tryz.ntmps102
  go_wp2_with fail
  go_region_with ((go_at_call 97; refine HP.out.mono ?_; rintro e w1 ⟨rfl, g1⟩; have G1 := Lib.hid g1; clear g1))
  all_goals
    go_wp2_with fail
    go_end0
    exact ⟨rfl, Goes.from HM.out G1.out⟩
set_option maxHeartbeats 1000000 in
set_option maxRecDepth 100000 in
theorem backs39 (B m : Nat) (sv bv mv : Value) (s : S) (t : Bool) (w : World) (H : Held w B (mach m sv bv mv s t)) (hB : B ≤ w.heap.size) (hs : 3 ≤ s.back.length) (hs2 : s.stack.length ≤ 100) (hb2 : s.back.length ≤ 100) : Calls Tryz.prog 102 #[.pointer (some ⟨m, 0, none⟩), .int .i64 39] w (fun e w' => e = .returned (.tuple #[]) ∧ Goes w B m sv bv mv s t (backs s 39) t w') := by
  obtain ⟨g, c, rfl, hc, hb, hg, hcell, hfz⟩ := (m_back H).form (by omega)
  have k := m_blk H
  have c3 : w.cell? ⟨m, 3, none⟩ = some (.slice (some ⟨g, 0, none⟩) s.back.length (c + 1)) := k.cell 3
  obtain ⟨n, hn⟩ : ∃ n : Nat, s.back.length = n + 3 := ⟨s.back.length - 3, by omega⟩
  have hx := hcell n (by omega)
  rw [ints_get _ _ (by omega)] at hx
  have HP := Lib.hid (push_lit B m _ _ mv s t w.drew H.drew hB [s.back.getD n 0] _ rfl 1 1 rfl (by simp; omega))
  have hfin : push s [s.back.getD n 0] = backs s 39 := by show push s _ = push s _; skip; rw [show s.back.length - 3 = n by omega]
  rw [hfin] at HP
  have HM := Lib.hid (Turns.refl H).drew
  generalize s.back.getD n 0 = x at *
  rw [hn] at c3 hc
  have h1 : ((n + 3 : Nat) : Int) - 3 = (n : Int) := by omega
  have h3 : IntKind.i64.wrap (n : Int) = (n : Int) := IntWalk.i64_in _ (by omega)
  have h4 : (0 : Int) ≤ (n : Int) := by omega
  have h5 : (n : Int) < ((n + 3 : Nat) : Int) := by omega
  clear k hcell hfz hfin hb hg hb2 hs2 hs hn
  go_enter Tryz.func102, Tryz.ntmps102
  go_wp2_with fail
  go_region_with ((go_at_call 97; refine HP.out.mono ?_; rintro e w1 ⟨rfl, g1⟩; have G1 := Lib.hid g1; clear g1))
  all_goals
    go_wp2_with fail
    go_end0
    exact ⟨rfl, Goes.from HM.out G1.out⟩
end Go.Proofs.YtompdfpjmdnhoabGreatDoor.Mc
