/-
  Lemmas on the way, for every input that they name: McS, McZ.
-/
import Derived.Test.YtompdfpjmdnhoabGreatDoorQ05
import Derived.Test.YtompdfpjmdnhoabGreatDoorQ11
import Derived.Test.YtompdfpjmdnhoabGreatDoorQ17
import Derived.Test.YtompdfpjmdnhoabGreatDoorQ23
set_option linter.unusedVariables false
set_option linter.unusedSimpArgs false
set_option linter.deprecated false
namespace Go.Proofs.YtompdfpjmdnhoabGreatDoor.Mc
open Go.RowKit Go.Proofs.YtompdfpjmdnhoabGreatDoor.Rs Go.Proofs.YtompdfpjmdnhoabGreatDoor.Ft
theorem name_any (c : Int) (hc : isOp c = true) (w : World) : Calls Tryz.prog 27 #[.int .i64 c] w fun e w' => e = .returned (.string (opName c)) ∧ Below w.heap.size w w' := by
  have HF := Lib.hid (of_any c hc)
  have hrow := row_eq c hc
  have fe : ∀ W, (Instr.field 73 (.agg (rowOf c.toNat)) 0).run Tryz.prog W = .ok (.string (opName c)) W := by
    rw [hrow]
    generalize opName c = nm
    generalize (moves c) = mv
    intro W
    kernel_rfl
  clear hrow hc
  go_enter Tryz.func27, Tryz.ntmps27
  go_wp2_with fail
  refine (HF.out _).mono ?_
  rintro e w1 ⟨rfl, hb⟩
  have HB := Lib.hid hb
  clear hb
  go_wp2_with fail
  go_ret
  exact ⟨rfl, HB.out⟩
theorem arg_op (c : Int) (w : World) : Calls Tryz.prog 34 #[.int .i64 c] w fun e w' => e = .returned (.bool (hasArg c)) ∧ w = w' := Wv.arg_any c w
theorem load_at {s : S} {a c : Int} (h : load s a = some c) : 0 ≤ a ∧ a < s.mem.length ∧ s.mem.getD a.toNat 0 = c := by
  unfold load at h
  split at h
  · rename_i h1; injection h with h; exact ⟨h1.1, h1.2, h⟩
  · cases h
theorem load_out {s : S} {a : Int} (h : load s a = none) : a < 0 ∨ (s.mem.length : Int) ≤ a := by
  unfold load at h
  split at h
  · cases h
  · omega
theorem load_some (B m : Nat) (sv bv mv : Value) (s : S) (t : Bool) (w : World) (H : Held w B (mach m sv bv mv s t)) (a c : Int) (h : load s a = some c) (hm : s.mem.length ≤ 5000) :
    Calls Tryz.prog 65 #[.pointer (some ⟨m, 0, none⟩), .int .i64 a] w fun e w' => e = .returned (.tuple #[.int .i64 c, .nilIface]) ∧ w = w' := by
  obtain ⟨h1, h2, h3⟩ := load_at h
  have := load_yes B m sv bv mv s t w H a.toNat (by omega) hm
  have e : ((a.toNat : Nat) : Int) = a := by omega
  rw [e, h3] at this
  exact this
theorem undraw {w w' : World} {B n : Nat} (h : Below B (w.drewN n) w') : Below B w w' := ⟨h.os, h.tape, h.output, h.size, h.block⟩
theorem acts_bad0 {w w1 : World} {B m : Nat} {sv bv mv : Value} {s : S} {c ip : Int} {ws : List ByteArray} {v : Value} (H : Held w B (mach m sv bv mv s false)) (h1 : ErrIs w1 c ip ws v) (h2 : Below w.heap.size w w1) : Acts w B m sv bv mv s (.bad c false) (.returned v) w1 :=
  ⟨v, ip, ws, rfl, h1, s, rfl, Goes.of_below (Goes.refl H) h2 (Nat.le_refl _)⟩
section
variable {w w1 : World} {B m : Nat} {sv bv mv : Value} {s : S}
theorem exec_none (h : load s s.ip = none) : exec s = .bad (-9) false := by unfold exec; rw [h]
theorem exec_call {c : Int} (h : load s s.ip = some c) (h64 : 64 ≤ c) : exec s = if 48 ≤ s.back.length then .bad (-5) false else .ok { lay s [s.ip + 1] with ip := c } := by unfold exec; rw [h]; dsimp only; rw [if_pos h64]
theorem exec_noop {c : Int} (h : load s s.ip = some c) (h64 : ¬ 64 ≤ c) (ho : isOp c = false) : exec s = .bad (-13) false := by unfold exec; rw [h]; dsimp only; rw [if_neg h64, if_pos ho]
theorem exec_noarg {c : Int} (h : load s s.ip = some c) (h64 : ¬ 64 ≤ c) (ho : isOp c = true) (ha : hasArg c = true) (hl : load s (s.ip + 1) = none) : exec s = .bad (-9) false := by
  unfold exec; rw [h]; dsimp only; rw [if_neg h64, if_neg (by rw [ho]; simp), if_pos ha, hl]
theorem exec_arg {c arg : Int} (h : load s s.ip = some c) (h64 : ¬ 64 ≤ c) (ho : isOp c = true) (ha : hasArg c = true) (hl : load s (s.ip + 1) = some arg) : exec s = if room s c = 0 then act { s with ip := s.ip + 2 } c arg s.ip else .bad (room s c) false := by
  unfold exec; rw [h]; dsimp only; rw [if_neg h64, if_neg (by rw [ho]; simp), if_pos ha, hl]
theorem exec_plain {c : Int} (h : load s s.ip = some c) (h64 : ¬ 64 ≤ c) (ho : isOp c = true) (ha : hasArg c = false) : exec s = if room s c = 0 then act { s with ip := s.ip + 1 } c 0 s.ip else .bad (room s c) false := by
  unfold exec; rw [h]; dsimp only; rw [if_neg h64, if_neg (by rw [ho]; simp), if_neg (by rw [ha]; simp)]
theorem acts_then {s1 : S} {r : Rslt} {e : Ending} {sv1 bv1 : Value} (N : Turns w B (mach m sv bv mv s false) (mach m sv1 bv1 mv s1 false) w1) (hm : s1.mem = s.mem) {w2 : World} (h : Acts w1 B m sv1 bv1 mv s1 r e w2) : Acts w B m sv bv mv s r e w2 := by
  cases r with
  | ok s' => obtain ⟨h1, t', g⟩ := h; exact ⟨h1, t', Goes.from N g⟩
  | bad c th => obtain ⟨v, ip, ws, h1, h2, s', h3, g⟩ := h; exact ⟨v, ip, ws, h1, h2, s', h3.trans hm, Goes.from N g⟩
end
set_option maxHeartbeats 2000000 in
set_option maxRecDepth 100000 in
theorem step_noaddr (B m : Nat) (sv bv mv : Value) (s : S) (w : World) (H : Held w B (mach m sv bv mv s false)) (hB : B ≤ w.heap.size) (W : Wf s) (hl : load s s.ip = none) : Calls Tryz.prog 45 #[.pointer (some ⟨m, 0, none⟩)] w (Acts w B m sv bv mv s (.bad (-9) false)) := by
  have k := m_blk H
  have c0 : w.cell? ⟨m, 0, none⟩ = some (.int .i64 s.ip) := k.cell 0
  have nm := W.nm
  have HL := Lib.hid (load_no B m sv bv mv s false w H s.ip (load_out hl) (by omega))
  have HH := Lib.hid H
  clear k H hl
  go_enter Tryz.func45, Tryz.ntmps45
  go_wp2_with fail
  refine HL.out.mono ?_
  rintro e w1 ⟨v, ip, ws, rfl, h1, h2⟩
  have HR := Lib.hid (acts_bad0 HH.out h1 h2)
  obtain ⟨T, p, rfl⟩ := h1.form
  clear h1 h2
  go_wp2_with fail
  go_ret
  exact HR.out
set_option maxHeartbeats 2000000 in
set_option maxRecDepth 100000 in
theorem step_callok (B m : Nat) (sv bv mv : Value) (s : S) (w : World) (H : Held w B (mach m sv bv mv s false)) (hB : B ≤ w.heap.size) (W : Wf s) (c : Int) (hl : load s s.ip = some c) (h64 : 64 ≤ c) (hb : s.back.length < 48) : Calls Tryz.prog 45 #[.pointer (some ⟨m, 0, none⟩)] w (Acts w B m sv bv mv s (.ok { lay s [s.ip + 1] with ip := c })) := by
  have k := m_blk H
  have c0 : w.cell? ⟨m, 0, none⟩ = some (.int .i64 s.ip) := k.cell 0
  have nm := W.nm
  have HL := Lib.hid (load_some B m sv bv mv s false w H s.ip c hl (by omega))
  obtain ⟨l1, l2, _⟩ := load_at hl
  have HC := Lib.hid (call_ok B m sv bv mv s false w H hB c hb l1 (by omega))
  clear k H hl l1 l2
  go_enter Tryz.func45, Tryz.ntmps45
  go_wp2_with fail
  refine HL.out.mono ?_
  rintro e w1 ⟨rfl, rfl⟩
  go_wp2_with fail
  refine HC.out.mono ?_
  rintro e w1 ⟨rfl, g⟩
  have G := Lib.hid g
  clear g
  go_wp2_with fail
  go_ret
  exact acts_ok G.out
set_option maxHeartbeats 2000000 in
set_option maxRecDepth 100000 in
theorem step_callbad (B m : Nat) (sv bv mv : Value) (s : S) (w : World) (H : Held w B (mach m sv bv mv s false)) (hB : B ≤ w.heap.size) (W : Wf s) (c : Int) (hl : load s s.ip = some c) (h64 : 64 ≤ c) (hb : 48 ≤ s.back.length) : Calls Tryz.prog 45 #[.pointer (some ⟨m, 0, none⟩)] w (Acts w B m sv bv mv s (.bad (-5) false)) := by
  have k := m_blk H
  have c0 : w.cell? ⟨m, 0, none⟩ = some (.int .i64 s.ip) := k.cell 0
  have nm := W.nm
  have HL := Lib.hid (load_some B m sv bv mv s false w H s.ip c hl (by omega))
  have HC := Lib.hid (call_bad B m sv bv mv s false w H c hb)
  have HH := Lib.hid H
  clear k H hl
  go_enter Tryz.func45, Tryz.ntmps45
  go_wp2_with fail
  refine HL.out.mono ?_
  rintro e w1 ⟨rfl, rfl⟩
  go_wp2_with fail
  refine HC.out.mono ?_
  rintro e w1 ⟨v, ip, ws, rfl, h1, h2⟩
  have HR := Lib.hid (acts_bad0 HH.out h1 h2)
  obtain ⟨T, p, rfl⟩ := h1.form
  clear h1 h2
  go_wp2_with fail
  go_ret
  exact HR.out
set_option maxHeartbeats 2000000 in
set_option maxRecDepth 100000 in
theorem step_noop (B m : Nat) (sv bv mv : Value) (s : S) (w : World) (H : Held w B (mach m sv bv mv s false)) (hB : B ≤ w.heap.size) (W : Wf s) (c : Int) (hl : load s s.ip = some c) (h64 : ¬ 64 ≤ c) (ho : isOp c = false) : Calls Tryz.prog 45 #[.pointer (some ⟨m, 0, none⟩)] w (Acts w B m sv bv mv s (.bad (-13) false)) := by
  have k := m_blk H
  have c0 : w.cell? ⟨m, 0, none⟩ = some (.int .i64 s.ip) := k.cell 0
  have nm := W.nm
  have HL := Lib.hid (load_some B m sv bv mv s false w H s.ip c hl (by omega))
  have HC := Lib.hid (fails_any B m sv bv mv s false w H (-13) (by decide))
  have HO := Lib.hid (right_no c ho)
  have HH := Lib.hid H
  clear k H hl ho
  go_enter Tryz.func45, Tryz.ntmps45
  go_wp2_with fail
  refine HL.out.mono ?_
  rintro e w1 ⟨rfl, rfl⟩
  go_wp2_with fail
  refine (HO.out _).mono ?_
  rintro e w1 ⟨rfl, rfl⟩
  go_wp2_with fail
  refine HC.out.mono ?_
  rintro e w1 ⟨v, ip, ws, rfl, h1, h2⟩
  have HR := Lib.hid (acts_bad0 HH.out h1 h2)
  obtain ⟨T, p, rfl⟩ := h1.form
  clear h1 h2
  go_wp2_with fail
  go_ret
  exact HR.out
set_option maxHeartbeats 2000000 in
set_option maxRecDepth 100000 in
theorem step_noarg (B m : Nat) (sv bv mv : Value) (s : S) (w : World) (H : Held w B (mach m sv bv mv s false)) (hB : B ≤ w.heap.size) (W : Wf s) (c : Int) (hl : load s s.ip = some c) (h64 : ¬ 64 ≤ c) (ho : isOp c = true) (ha : hasArg c = true) (hl2 : load s (s.ip + 1) = none) : Calls Tryz.prog 45 #[.pointer (some ⟨m, 0, none⟩)] w (Acts w B m sv bv mv s (.bad (-9) false)) := by
  have k := m_blk H
  have c0 : w.cell? ⟨m, 0, none⟩ = some (.int .i64 s.ip) := k.cell 0
  have nm := W.nm
  have HL := Lib.hid (load_some B m sv bv mv s false w H s.ip c hl (by omega))
  have HO := Lib.hid (right_op c ho)
  have HA := Lib.hid (arg_op c)
  have HH := Lib.hid H
  obtain ⟨l1, l2, _⟩ := load_at hl
  have e1 : wrap64 (s.ip + 1) = s.ip + 1 := by unfold wrap64; omega
  have e2 : wrap64 (s.ip + 1 + 1) = s.ip + 2 := by unfold wrap64; omega
  have HL2 : ∀ n, Hid _ := fun n => Lib.hid (load_no B m sv bv mv s false (w.drewN n) (H.drewN n) (s.ip + 1) (load_out hl2) (by omega))
  clear k H hl hl2 ho l1 l2
  go_enter Tryz.func45, Tryz.ntmps45
  go_wp2_with fail
  refine HL.out.mono ?_
  rintro e w1 ⟨rfl, rfl⟩
  go_wp2_with fail
  refine (HO.out _).mono ?_
  rintro e w1 ⟨rfl, rfl⟩
  go_wp2_with fail
  go_quiet (fail)
  go_wp2_with fail
  refine (HA.out _).mono ?_
  rintro e w1 ⟨rfl, rfl⟩
  rw [ha]
  go_wp2_with fail
  refine (HL2 _).out.mono ?_
  rintro e w1 ⟨v, ip, ws, rfl, h1, h2⟩
  have HR := Lib.hid (acts_bad0 HH.out h1 (undraw h2))
  obtain ⟨T, p, rfl⟩ := h1.form
  clear h1 h2
  go_wp2_with fail
  go_ret
  exact HR.out
set_option maxHeartbeats 2000000 in
set_option maxRecDepth 100000 in
theorem step_roomA (B m : Nat) (sv bv mv : Value) (s : S) (w : World) (H : Held w B (mach m sv bv mv s false)) (hB : B ≤ w.heap.size) (W : Wf s) (c : Int) (hl : load s s.ip = some c) (h64 : ¬ 64 ≤ c) (ho : isOp c = true) (arg : Int) (ha : hasArg c = true) (hl2 : load s (s.ip + 1) = some arg) (hr : room s c ≠ 0) : Calls Tryz.prog 45 #[.pointer (some ⟨m, 0, none⟩)] w (Acts w B m sv bv mv s (.bad (room s c) false)) := by
  obtain ⟨SA, sc, rfl⟩ := (m_stack H).slice
  obtain ⟨BA, bc, rfl⟩ := (m_back H).slice
  have k := m_blk H
  have c0 : w.cell? ⟨m, 0, none⟩ = some (.int .i64 s.ip) := k.cell 0
  have nm := W.nm
  have c1 : w.cell? ⟨m, 1, none⟩ = some (.int .i64 s.handler) := k.cell 1
  have c2 : w.cell? ⟨m, 2, none⟩ = some (.slice SA s.stack.length sc) := k.cell 2
  have c3 : w.cell? ⟨m, 3, none⟩ = some (.slice BA s.back.length bc) := k.cell 3
  have c4 : w.cell? ⟨m, 4, none⟩ = some mv := k.cell 4
  have c5 : w.cell? ⟨m, 5, none⟩ = some (.string s.out) := k.cell 5
  have c6 : w.cell? ⟨m, 6, none⟩ = some (.string s.inp) := k.cell 6
  have c7 : w.cell? ⟨m, 7, none⟩ = some (.int .i64 s.read) := k.cell 7
  have c8 : w.cell? ⟨m, 8, none⟩ = some (.int .i64 s.status) := k.cell 8
  have c9 : w.cell? ⟨m, 9, none⟩ = some (.int .i64 s.code) := k.cell 9
  have hn := W.ns
  have hnb := W.nb
  have HRm : Hid (∀ n, Calls Tryz.prog 68 #[.agg #[.int .i64 s.ip, .int .i64 s.handler, .slice SA s.stack.length sc, .slice BA s.back.length bc, mv, .string s.out, .string s.inp, .int .i64 s.read, .int .i64 s.status, .int .i64 s.code], .int .i64 c] (w.drewN n) fun e w' => e = .returned (.int .i64 (room s c)) ∧ Below w.heap.size (w.drewN n) w') := fun n => room_any c ho SA BA sc bc mv s (w.drewN n) (by omega) (by omega)
  have HWf := Lib.hid W
  have HO' := Lib.hid ho
  have HL := Lib.hid (load_some B m _ _ mv s false w H s.ip c hl (by omega))
  have HO := Lib.hid (right_op c ho)
  have HA := Lib.hid (arg_op c)
  have HH := Lib.hid H
  obtain ⟨l1, l2, _⟩ := load_at hl
  have e1 : wrap64 (s.ip + 1) = s.ip + 1 := by unfold wrap64; omega
  have e2 : wrap64 (s.ip + 1 + 1) = s.ip + 2 := by unfold wrap64; omega
  have HL2 : ∀ n, Hid _ := fun n => Lib.hid (load_some B m _ _ mv s false (w.drewN n) (H.drewN n) (s.ip + 1) arg hl2 (by omega))
  clear hl2
  clear k H hl ho l1 l2 W hn hnb
  go_enter Tryz.func45, Tryz.ntmps45
  go_wp2_with fail
  refine HL.out.mono ?_
  rintro e w1 ⟨rfl, rfl⟩
  go_wp2_with fail
  refine (HO.out _).mono ?_
  rintro e w1 ⟨rfl, rfl⟩
  go_wp2_with fail
  go_quiet (fail)
  go_wp2_with fail
  refine (HA.out _).mono ?_
  rintro e w1 ⟨rfl, rfl⟩
  rw [ha]
  go_wp2_with fail
  refine (HL2 _).out.mono ?_
  rintro e w1 ⟨rfl, rfl⟩
  go_wp2_with fail
  refine (HRm.out _).mono ?_
  rintro e w1 ⟨rfl, hb⟩
  replace hb := undraw hb
  have HB := Lib.hid hb
  have HC := Lib.hid (fails_any B m _ _ mv s false w1 (HH.out.touch (Touch.of_below hb (fun _ => False)) (fun _ _ => id)) (room s c) hr)
  have h0 : (room s c == 0) = false := by simpa using hr
  clear hb hr
  go_wp2_with fail
  refine HC.out.mono ?_
  rintro e w2 ⟨v, ip, ws, rfl, h1, h2⟩
  have HR := Lib.hid (acts_bad0 HH.out h1 (HB.out.trans (h2.mono HB.out.size)))
  obtain ⟨T, p, rfl⟩ := h1.form
  clear h1 h2
  go_wp2_with fail
  go_ret
  exact HR.out
set_option maxHeartbeats 2000000 in
set_option maxRecDepth 100000 in
theorem step_roomP (B m : Nat) (sv bv mv : Value) (s : S) (w : World) (H : Held w B (mach m sv bv mv s false)) (hB : B ≤ w.heap.size) (W : Wf s) (c : Int) (hl : load s s.ip = some c) (h64 : ¬ 64 ≤ c) (ho : isOp c = true) (ha : hasArg c = false) (hr : room s c ≠ 0) : Calls Tryz.prog 45 #[.pointer (some ⟨m, 0, none⟩)] w (Acts w B m sv bv mv s (.bad (room s c) false)) := by
  obtain ⟨SA, sc, rfl⟩ := (m_stack H).slice
  obtain ⟨BA, bc, rfl⟩ := (m_back H).slice
  have k := m_blk H
  have c0 : w.cell? ⟨m, 0, none⟩ = some (.int .i64 s.ip) := k.cell 0
  have nm := W.nm
  have c1 : w.cell? ⟨m, 1, none⟩ = some (.int .i64 s.handler) := k.cell 1
  have c2 : w.cell? ⟨m, 2, none⟩ = some (.slice SA s.stack.length sc) := k.cell 2
  have c3 : w.cell? ⟨m, 3, none⟩ = some (.slice BA s.back.length bc) := k.cell 3
  have c4 : w.cell? ⟨m, 4, none⟩ = some mv := k.cell 4
  have c5 : w.cell? ⟨m, 5, none⟩ = some (.string s.out) := k.cell 5
  have c6 : w.cell? ⟨m, 6, none⟩ = some (.string s.inp) := k.cell 6
  have c7 : w.cell? ⟨m, 7, none⟩ = some (.int .i64 s.read) := k.cell 7
  have c8 : w.cell? ⟨m, 8, none⟩ = some (.int .i64 s.status) := k.cell 8
  have c9 : w.cell? ⟨m, 9, none⟩ = some (.int .i64 s.code) := k.cell 9
  have hn := W.ns
  have hnb := W.nb
  have HRm : Hid (∀ n, Calls Tryz.prog 68 #[.agg #[.int .i64 s.ip, .int .i64 s.handler, .slice SA s.stack.length sc, .slice BA s.back.length bc, mv, .string s.out, .string s.inp, .int .i64 s.read, .int .i64 s.status, .int .i64 s.code], .int .i64 c] (w.drewN n) fun e w' => e = .returned (.int .i64 (room s c)) ∧ Below w.heap.size (w.drewN n) w') := fun n => room_any c ho SA BA sc bc mv s (w.drewN n) (by omega) (by omega)
  have HWf := Lib.hid W
  have HO' := Lib.hid ho
  have HL := Lib.hid (load_some B m _ _ mv s false w H s.ip c hl (by omega))
  have HO := Lib.hid (right_op c ho)
  have HA := Lib.hid (arg_op c)
  have HH := Lib.hid H
  obtain ⟨l1, l2, _⟩ := load_at hl
  have e1 : wrap64 (s.ip + 1) = s.ip + 1 := by unfold wrap64; omega
  have e2 : wrap64 (s.ip + 1 + 1) = s.ip + 2 := by unfold wrap64; omega
  clear k H hl ho l1 l2 W hn hnb
  go_enter Tryz.func45, Tryz.ntmps45
  go_wp2_with fail
  refine HL.out.mono ?_
  rintro e w1 ⟨rfl, rfl⟩
  go_wp2_with fail
  refine (HO.out _).mono ?_
  rintro e w1 ⟨rfl, rfl⟩
  go_wp2_with fail
  go_quiet (fail)
  go_wp2_with fail
  refine (HA.out _).mono ?_
  rintro e w1 ⟨rfl, rfl⟩
  rw [ha]
  go_wp2_with fail
  refine (HRm.out _).mono ?_
  rintro e w1 ⟨rfl, hb⟩
  replace hb := undraw hb
  have HB := Lib.hid hb
  have HC := Lib.hid (fails_any B m _ _ mv s false w1 (HH.out.touch (Touch.of_below hb (fun _ => False)) (fun _ _ => id)) (room s c) hr)
  have h0 : (room s c == 0) = false := by simpa using hr
  clear hb hr
  go_wp2_with fail
  refine HC.out.mono ?_
  rintro e w2 ⟨v, ip, ws, rfl, h1, h2⟩
  have HR := Lib.hid (acts_bad0 HH.out h1 (HB.out.trans (h2.mono HB.out.size)))
  obtain ⟨T, p, rfl⟩ := h1.form
  clear h1 h2
  go_wp2_with fail
  go_ret
  exact HR.out
set_option maxHeartbeats 2000000 in
set_option maxRecDepth 100000 in
theorem step_doA (B m : Nat) (sv bv mv : Value) (s : S) (w : World) (H : Held w B (mach m sv bv mv s false)) (hB : B ≤ w.heap.size) (W : Wf s) (c : Int) (hl : load s s.ip = some c) (h64 : ¬ 64 ≤ c) (ho : isOp c = true) (arg : Int) (ha : hasArg c = true) (hl2 : load s (s.ip + 1) = some arg) (hr : room s c = 0) (r : Rslt) (hact : act { s with ip := s.ip + 2 } c arg s.ip = r) : Calls Tryz.prog 45 #[.pointer (some ⟨m, 0, none⟩)] w (Acts w B m sv bv mv s r) := by
  obtain ⟨SA, sc, rfl⟩ := (m_stack H).slice
  obtain ⟨BA, bc, rfl⟩ := (m_back H).slice
  have k := m_blk H
  have c0 : w.cell? ⟨m, 0, none⟩ = some (.int .i64 s.ip) := k.cell 0
  have nm := W.nm
  have c1 : w.cell? ⟨m, 1, none⟩ = some (.int .i64 s.handler) := k.cell 1
  have c2 : w.cell? ⟨m, 2, none⟩ = some (.slice SA s.stack.length sc) := k.cell 2
  have c3 : w.cell? ⟨m, 3, none⟩ = some (.slice BA s.back.length bc) := k.cell 3
  have c4 : w.cell? ⟨m, 4, none⟩ = some mv := k.cell 4
  have c5 : w.cell? ⟨m, 5, none⟩ = some (.string s.out) := k.cell 5
  have c6 : w.cell? ⟨m, 6, none⟩ = some (.string s.inp) := k.cell 6
  have c7 : w.cell? ⟨m, 7, none⟩ = some (.int .i64 s.read) := k.cell 7
  have c8 : w.cell? ⟨m, 8, none⟩ = some (.int .i64 s.status) := k.cell 8
  have c9 : w.cell? ⟨m, 9, none⟩ = some (.int .i64 s.code) := k.cell 9
  have hn := W.ns
  have hnb := W.nb
  have HRm : Hid (∀ n, Calls Tryz.prog 68 #[.agg #[.int .i64 s.ip, .int .i64 s.handler, .slice SA s.stack.length sc, .slice BA s.back.length bc, mv, .string s.out, .string s.inp, .int .i64 s.read, .int .i64 s.status, .int .i64 s.code], .int .i64 c] (w.drewN n) fun e w' => e = .returned (.int .i64 (room s c)) ∧ Below w.heap.size (w.drewN n) w') := fun n => room_any c ho SA BA sc bc mv s (w.drewN n) (by omega) (by omega)
  have HWf := Lib.hid W
  have HO' := Lib.hid ho
  have HL := Lib.hid (load_some B m _ _ mv s false w H s.ip c hl (by omega))
  have HO := Lib.hid (right_op c ho)
  have HA := Lib.hid (arg_op c)
  have HH := Lib.hid H
  obtain ⟨l1, l2, _⟩ := load_at hl
  have e1 : wrap64 (s.ip + 1) = s.ip + 1 := by unfold wrap64; omega
  have e2 : wrap64 (s.ip + 1 + 1) = s.ip + 2 := by unfold wrap64; omega
  have HL2 : ∀ n, Hid _ := fun n => Lib.hid (load_some B m _ _ mv s false (w.drewN n) (H.drewN n) (s.ip + 1) arg hl2 (by omega))
  clear hl2
  have HL12 := Lib.hid (And.intro l1 (And.intro l2 nm))
  clear k H hl ho l1 l2 W hn hnb
  go_enter Tryz.func45, Tryz.ntmps45
  go_wp2_with fail
  refine HL.out.mono ?_
  rintro e w1 ⟨rfl, rfl⟩
  go_wp2_with fail
  refine (HO.out _).mono ?_
  rintro e w1 ⟨rfl, rfl⟩
  go_wp2_with fail
  go_quiet (fail)
  go_wp2_with fail
  refine (HA.out _).mono ?_
  rintro e w1 ⟨rfl, rfl⟩
  rw [ha]
  go_wp2_with fail
  refine (HL2 _).out.mono ?_
  rintro e w1 ⟨rfl, rfl⟩
  go_wp2_with fail
  refine (HRm.out _).mono ?_
  rintro e w1 ⟨rfl, hb⟩
  replace hb := undraw hb
  rw [hr]
  have hsz := hb.size
  have N1 := Turns.of_below HH.out hb (Nat.le_refl _)
  have k1 := m_blk N1.held
  have d0 : w1.cell? ⟨m, 0, none⟩ = some (.int .i64 s.ip) := k1.cell 0
  have f0 := k1.frozen 0
  have N2 := m_ip N1 (s.ip + 2)
  have WW : Wf { s with ip := s.ip + 2 } := HWf.out.ip' _ (in_small (by have := HL12.out; omega) (by have := HL12.out; omega))
  obtain ⟨g1, g2, _, _⟩ := room_zero hr
  have hd := do_any c HO'.out arg s.ip B m _ _ mv { s with ip := s.ip + 2 } _ N2.held (Nat.le_trans hB N2.size) WW g1 g2
  rw [hact] at hd
  have HD := Lib.hid hd
  have N2' := Lib.hid N2
  have HNm := Lib.hid (name_any c HO'.out)
  clear hb hr N1 N2 k1 WW g1 g2 hsz hd hact
  go_wp2_with fail
  refine HD.out.mono ?_
  rintro e w2 ha2
  have HR := Lib.hid (acts_then N2'.out rfl ha2)
  clear N2'
  cases r with
  | ok s' =>
    obtain rfl : e = .returned .nilIface := HR.out.1
    go_wp2_with fail
    go_ret
    exact HR.out
  | bad cd th =>
    obtain ⟨v, ip, ws, rfl, h1, s', h3, g⟩ := HR.out
    have HW := Lib.hid (fun (nm : ByteArray) (w3 : World) (hb3 : Below w2.heap.size w2 w3) => wrap_any cd ip ws v nm w3 (h1.below hb3))
    have G := Lib.hid (And.intro h3 g)
    obtain ⟨T, p, rfl⟩ := h1.form
    clear h1 h3 g HR ha2
    go_wp2_with fail
    refine (HNm.out _).mono ?_
    rintro e w3 ⟨rfl, hb3⟩
    have HW3 := Lib.hid (HW.out (opName c) w3 hb3)
    have HB3 := Lib.hid hb3
    clear hb3
    go_wp2_with fail
    refine HW3.out.mono ?_
    rintro e w4 ⟨v', rfl, h5, h6⟩
    have HR : Hid (Acts w B m _ _ mv s (.bad cd th) (.returned v') w4) := ⟨v', ip, _, rfl, h5, s', G.out.1, Goes.of_below G.out.2 (HB3.out.trans (h6.mono HB3.out.size)) (Nat.le_refl _)⟩
    obtain ⟨T', p', rfl⟩ := h5.form
    clear h5 h6
    go_wp2_with fail
    go_ret
    exact HR.out
set_option maxHeartbeats 2000000 in
set_option maxRecDepth 100000 in
theorem step_doP (B m : Nat) (sv bv mv : Value) (s : S) (w : World) (H : Held w B (mach m sv bv mv s false)) (hB : B ≤ w.heap.size) (W : Wf s) (c : Int) (hl : load s s.ip = some c) (h64 : ¬ 64 ≤ c) (ho : isOp c = true) (ha : hasArg c = false) (hr : room s c = 0) (r : Rslt) (hact : act { s with ip := s.ip + 1 } c 0 s.ip = r) : Calls Tryz.prog 45 #[.pointer (some ⟨m, 0, none⟩)] w (Acts w B m sv bv mv s r) := by
  obtain ⟨SA, sc, rfl⟩ := (m_stack H).slice
  obtain ⟨BA, bc, rfl⟩ := (m_back H).slice
  have k := m_blk H
  have c0 : w.cell? ⟨m, 0, none⟩ = some (.int .i64 s.ip) := k.cell 0
  have nm := W.nm
  have c1 : w.cell? ⟨m, 1, none⟩ = some (.int .i64 s.handler) := k.cell 1
  have c2 : w.cell? ⟨m, 2, none⟩ = some (.slice SA s.stack.length sc) := k.cell 2
  have c3 : w.cell? ⟨m, 3, none⟩ = some (.slice BA s.back.length bc) := k.cell 3
  have c4 : w.cell? ⟨m, 4, none⟩ = some mv := k.cell 4
  have c5 : w.cell? ⟨m, 5, none⟩ = some (.string s.out) := k.cell 5
  have c6 : w.cell? ⟨m, 6, none⟩ = some (.string s.inp) := k.cell 6
  have c7 : w.cell? ⟨m, 7, none⟩ = some (.int .i64 s.read) := k.cell 7
  have c8 : w.cell? ⟨m, 8, none⟩ = some (.int .i64 s.status) := k.cell 8
  have c9 : w.cell? ⟨m, 9, none⟩ = some (.int .i64 s.code) := k.cell 9
  have hn := W.ns
  have hnb := W.nb
  have HRm : Hid (∀ n, Calls Tryz.prog 68 #[.agg #[.int .i64 s.ip, .int .i64 s.handler, .slice SA s.stack.length sc, .slice BA s.back.length bc, mv, .string s.out, .string s.inp, .int .i64 s.read, .int .i64 s.status, .int .i64 s.code], .int .i64 c] (w.drewN n) fun e w' => e = .returned (.int .i64 (room s c)) ∧ Below w.heap.size (w.drewN n) w') := fun n => room_any c ho SA BA sc bc mv s (w.drewN n) (by omega) (by omega)
  have HWf := Lib.hid W
  have HO' := Lib.hid ho
  have HL := Lib.hid (load_some B m _ _ mv s false w H s.ip c hl (by omega))
  have HO := Lib.hid (right_op c ho)
  have HA := Lib.hid (arg_op c)
  have HH := Lib.hid H
  obtain ⟨l1, l2, _⟩ := load_at hl
  have e1 : wrap64 (s.ip + 1) = s.ip + 1 := by unfold wrap64; omega
  have e2 : wrap64 (s.ip + 1 + 1) = s.ip + 2 := by unfold wrap64; omega
  have HL12 := Lib.hid (And.intro l1 (And.intro l2 nm))
  clear k H hl ho l1 l2 W hn hnb
  go_enter Tryz.func45, Tryz.ntmps45
  go_wp2_with fail
  refine HL.out.mono ?_
  rintro e w1 ⟨rfl, rfl⟩
  go_wp2_with fail
  refine (HO.out _).mono ?_
  rintro e w1 ⟨rfl, rfl⟩
  go_wp2_with fail
  go_quiet (fail)
  go_wp2_with fail
  refine (HA.out _).mono ?_
  rintro e w1 ⟨rfl, rfl⟩
  rw [ha]
  go_wp2_with fail
  refine (HRm.out _).mono ?_
  rintro e w1 ⟨rfl, hb⟩
  replace hb := undraw hb
  rw [hr]
  have hsz := hb.size
  have N1 := Turns.of_below HH.out hb (Nat.le_refl _)
  have k1 := m_blk N1.held
  have d0 : w1.cell? ⟨m, 0, none⟩ = some (.int .i64 s.ip) := k1.cell 0
  have f0 := k1.frozen 0
  have N2 := m_ip N1 (s.ip + 1)
  have WW : Wf { s with ip := s.ip + 1 } := HWf.out.ip' _ (in_small (by have := HL12.out; omega) (by have := HL12.out; omega))
  obtain ⟨g1, g2, _, _⟩ := room_zero hr
  have hd := do_any c HO'.out 0 s.ip B m _ _ mv { s with ip := s.ip + 1 } _ N2.held (Nat.le_trans hB N2.size) WW g1 g2
  rw [hact] at hd
  have HD := Lib.hid hd
  have N2' := Lib.hid N2
  have HNm := Lib.hid (name_any c HO'.out)
  clear hb hr N1 N2 k1 WW g1 g2 hsz hd hact
  go_wp2_with fail
  refine HD.out.mono ?_
  rintro e w2 ha2
  have HR := Lib.hid (acts_then N2'.out rfl ha2)
  clear N2'
  cases r with
  | ok s' =>
    obtain rfl : e = .returned .nilIface := HR.out.1
    go_wp2_with fail
    go_ret
    exact HR.out
  | bad cd th =>
    obtain ⟨v, ip, ws, rfl, h1, s', h3, g⟩ := HR.out
    have HW := Lib.hid (fun (nm : ByteArray) (w3 : World) (hb3 : Below w2.heap.size w2 w3) => wrap_any cd ip ws v nm w3 (h1.below hb3))
    have G := Lib.hid (And.intro h3 g)
    obtain ⟨T, p, rfl⟩ := h1.form
    clear h1 h3 g HR ha2
    go_wp2_with fail
    refine (HNm.out _).mono ?_
    rintro e w3 ⟨rfl, hb3⟩
    have HW3 := Lib.hid (HW.out (opName c) w3 hb3)
    have HB3 := Lib.hid hb3
    clear hb3
    go_wp2_with fail
    refine HW3.out.mono ?_
    rintro e w4 ⟨v', rfl, h5, h6⟩
    have HR : Hid (Acts w B m _ _ mv s (.bad cd th) (.returned v') w4) := ⟨v', ip, _, rfl, h5, s', G.out.1, Goes.of_below G.out.2 (HB3.out.trans (h6.mono HB3.out.size)) (Nat.le_refl _)⟩
    obtain ⟨T', p', rfl⟩ := h5.form
    clear h5 h6
    go_wp2_with fail
    go_ret
    exact HR.out
theorem step_any (B m : Nat) (sv bv mv : Value) (s : S) (w : World) (H : Held w B (mach m sv bv mv s false)) (hB : B ≤ w.heap.size) (W : Wf s) : Calls Tryz.prog 45 #[.pointer (some ⟨m, 0, none⟩)] w (Acts w B m sv bv mv s (exec s)) := by
  cases hl : load s s.ip with
  | none => rw [exec_none hl]; exact step_noaddr B m sv bv mv s w H hB W hl
  | some c =>
    by_cases h64 : 64 ≤ c
    · rw [exec_call hl h64]
      split
      · exact step_callbad B m sv bv mv s w H hB W c hl h64 (by assumption)
      · exact step_callok B m sv bv mv s w H hB W c hl h64 (by omega)
    · cases ho : isOp c with
      | false => rw [exec_noop hl h64 ho]; exact step_noop B m sv bv mv s w H hB W c hl h64 ho
      | true =>
        cases ha : hasArg c with
        | true =>
          cases hl2 : load s (s.ip + 1) with
          | none => rw [exec_noarg hl h64 ho ha hl2]; exact step_noarg B m sv bv mv s w H hB W c hl h64 ho ha hl2
          | some arg =>
            rw [exec_arg hl h64 ho ha hl2]
            split
            · exact step_doA B m sv bv mv s w H hB W c hl h64 ho arg ha hl2 (by assumption) _ rfl
            · exact step_roomA B m sv bv mv s w H hB W c hl h64 ho arg ha hl2 (by assumption)
        | false =>
          rw [exec_plain hl h64 ho ha]
          split
          · exact step_doP B m sv bv mv s w H hB W c hl h64 ho ha (by assumption) _ rfl
          · exact step_roomP B m sv bv mv s w H hB W c hl h64 ho ha (by assumption)
end Go.Proofs.YtompdfpjmdnhoabGreatDoor.Mc
namespace Go.Proofs.YtompdfpjmdnhoabGreatDoor.Mc
open Go.RowKit Go.Proofs.YtompdfpjmdnhoabGreatDoor.Rs
theorem made_row {w w' : World} {B : Nat} {e : TypeId} {sz n : Nat} {v : Value} {xs : List Value} (h : Row w' w.heap.size e sz v n xs) (hb : Below w.heap.size w w') (hB : B ≤ w.heap.size) : Turns w B [] [.row e sz v n xs] w' := by
  refine ⟨⟨fun r hr => ?_, ?_⟩, Touch.of_below hb _, fun k hk => ?_⟩
  · simp only [List.mem_singleton] at hr
    subst hr
    exact h.mono hB
  · cases e : roomBlock v <;> simp [blks, Res.blk, e]
  · obtain ⟨r, hr, e⟩ := mem_blks.1 hk
    simp only [List.mem_singleton] at hr
    subst hr
    exact .inr (h.lt k e).1
theorem threw_reckon {s : S} {c code : Int} (h : reckon s c = .bad code true) : False := by
  unfold reckon at h
  split at h
  · cases h
  · split at h <;> cases h
theorem threw_write {s : S} {t : ByteArray} {code : Int} (h : write s t = .bad code true) : False := by
  unfold write at h
  split at h <;> cases h
theorem threw_memory {s : S} {c code : Int} (h : memory s c = .bad code true) : False := by
  unfold memory at h
  dsimp only at h
  split at h
  · cases h
  · split at h <;> cases h
theorem threw_flow {s : S} {c code : Int} (h : flow s c = .bad code true) : c = 45 := by
  unfold flow at h
  split at h
  · split at h <;> cases h
  split at h
  · assumption
  split at h
  · cases h
  · unfold endCatch at h
    split at h
    · cases h
    · split at h <;> cases h
theorem threw_act {s : S} {c arg was code : Int} (h : act s c arg was = .bad code true) : c = 45 := by
  unfold act at h
  by_cases k0 : c = 0
  · rw [if_pos k0] at h; cases h
  rw [if_neg k0] at h
  by_cases k1 : c = 2
  · rw [if_pos k1] at h; cases h
  rw [if_neg k1] at h
  by_cases k2 : c = 4
  · rw [if_pos k2] at h; cases h
  rw [if_neg k2] at h
  by_cases k3 : c = 3
  · rw [if_pos k3] at h; cases h
  rw [if_neg k3] at h
  by_cases k4 : c = 5
  · rw [if_pos k4] at h; cases h
  rw [if_neg k4] at h
  by_cases k5 : 6 ≤ c ∧ c ≤ 10
  · rw [if_pos k5] at h; cases h
  rw [if_neg k5] at h
  by_cases k6 : 30 ≤ c ∧ c ≤ 32
  · rw [if_pos k6] at h; exact (threw_memory h).elim
  rw [if_neg k6] at h
  by_cases k7 : (33 ≤ c ∧ c ≤ 36) ∨ c = 39 ∨ c = 40
  · rw [if_pos k7] at h; cases h
  rw [if_neg k7] at h
  by_cases k8 : c = 37 ∨ c = 38
  · rw [if_pos k8] at h; cases h
  rw [if_neg k8] at h
  by_cases k9 : c = 41
  · rw [if_pos k9] at h; exact (threw_write h).elim
  rw [if_neg k9] at h
  by_cases k10 : c = 42
  · rw [if_pos k10] at h; exact (threw_write h).elim
  rw [if_neg k10] at h
  by_cases k11 : c = 43
  · rw [if_pos k11] at h; cases h
  rw [if_neg k11] at h
  by_cases k12 : (44 ≤ c ∧ c ≤ 46) ∨ c = 1
  · rw [if_pos k12] at h; exact threw_flow h
  rw [if_neg k12] at h
  by_cases k13 : c = 47
  · rw [if_pos k13] at h; cases h
  rw [if_neg k13] at h
  exact (threw_reckon h).elim
theorem threw_exec {s : S} {code : Int} (h : exec s = .bad code true) : 1 ≤ s.stack.length := by
  cases hl : load s s.ip with
  | none => rw [exec_none hl] at h; cases h
  | some c =>
    by_cases h64 : 64 ≤ c
    · rw [exec_call hl h64] at h
      split at h <;> cases h
    · cases ho : isOp c with
      | false => rw [exec_noop hl h64 ho] at h; cases h
      | true =>
        cases ha : hasArg c with
        | true =>
          cases hl2 : load s (s.ip + 1) with
          | none => rw [exec_noarg hl h64 ho ha hl2] at h; cases h
          | some arg =>
            rw [exec_arg hl h64 ho ha hl2] at h
            split at h
            · rename_i hr
              have := threw_act h
              subst this
              exact (room_zero hr).1
            · cases h
        | false =>
          rw [exec_plain hl h64 ho ha] at h
          split at h
          · rename_i hr
            have := threw_act h
            subst this
            exact (room_zero hr).1
          · cases h
theorem adv_held {w w7 w8 : World} {B m : Nat} {sv bv mv sva bva v2 v3 sv2 bv2 : Value} {s s' was r : S} {t thr : Bool} {b : Nat} {cs : Array Value}
    (N : Turns w B (mach m sv bv mv s t) (mach m sva bva mv s' thr ++ [.row 3 1 v3 was.back.length (ints was.back), .row 3 1 v2 was.stack.length (ints was.stack), .st b 33 cs]) w7)
    (hb : Below w7.heap.size w7 w8) (hs : Row w8 B 3 1 sv2 r.stack.length (ints r.stack)) (hs2 : ∀ k, roomBlock sv2 = some k → roomBlock v2 = some k ∨ w7.heap.size ≤ k)
    (hk : Row w8 B 3 1 bv2 r.back.length (ints r.back)) (hk2 : ∀ k, roomBlock bv2 = some k → roomBlock v3 = some k) (hm' : s'.mem = s.mem) (hm : r.mem = s.mem)
    {w9 : World} (hT : Touch w8 w9 (fun k => k = m)) (hB9 : Blk w9 m 70 (mCells sv2 bv2 mv r thr)) :
    Turns w B (mach m sv bv mv s t) (mach m sv2 bv2 mv r thr) w9 := by
  have HN := N.held
  have hmb : B ≤ m ∧ m < w7.heap.size := HN.low (mem_blks.2 ⟨.st m 70 (mCells sva bva mv s' thr), by simp [mach], rfl⟩)
  have hmem7 : Row w7 B 3 1 mv s'.mem.length (ints s'.mem) := HN.row (by simp [mach])
  have A : (blks (mach m sva bva mv s' thr ++ [.row 3 1 v3 was.back.length (ints was.back), .row 3 1 v2 was.stack.length (ints was.stack), .st b 33 cs])).Nodup := HN.apart
  have e1 : blks (mach m sva bva mv s' thr ++ [.row 3 1 v3 was.back.length (ints was.back), .row 3 1 v2 was.stack.length (ints was.stack), .st b 33 cs]) = [m] ++ (roomBlock sva).toList ++ (roomBlock bva).toList ++ (roomBlock mv).toList ++ (roomBlock v3).toList ++ (roomBlock v2).toList ++ [b] := by
    unfold mach blks
    cases hh1 : roomBlock sva <;> cases hh2 : roomBlock bva <;> cases hh3 : roomBlock mv <;> cases hh4 : roomBlock v3 <;> cases hh5 : roomBlock v2 <;> simp [Res.blk, hh1, hh2, hh3, hh4, hh5]
  rw [e1] at A
  have n3 : ∀ k, roomBlock v3 = some k → k ≠ m ∧ roomBlock mv ≠ some k ∧ roomBlock v2 ≠ some k ∧ k < w7.heap.size := by
    intro k hk
    have hlt := (HN.low (k := k) (by rw [e1]; simp [hk])).2
    rw [hk] at A
    refine ⟨fun e => ?_, fun e => ?_, fun e => ?_, hlt⟩
    · subst e; simp [List.nodup_append] at A
    · rw [e] at A; simp [List.nodup_append] at A
    · rw [e] at A; simp [List.nodup_append] at A
  have n2 : ∀ k, roomBlock v2 = some k → k ≠ m ∧ roomBlock mv ≠ some k ∧ k < w7.heap.size := by
    intro k hk
    have hlt := (HN.low (k := k) (by rw [e1]; simp [hk])).2
    rw [hk] at A
    refine ⟨fun e => ?_, fun e => ?_, hlt⟩
    · subst e; simp [List.nodup_append] at A
    · rw [e] at A; simp [List.nodup_append] at A
  have nm : ∀ k, roomBlock mv = some k → k ≠ m ∧ k < w7.heap.size := by
    intro k hk
    have hlt := (HN.low (k := k) (by rw [e1]; simp [hk])).2
    rw [hk] at A
    refine ⟨fun e => ?_, hlt⟩
    subst e; simp [List.nodup_append] at A
  have q2 : ∀ k, roomBlock sv2 = some k → k ≠ m ∧ roomBlock mv ≠ some k ∧ roomBlock bv2 ≠ some k := by
    intro k hk
    rcases hs2 k hk with h | h
    · obtain ⟨h1, h2, _⟩ := n2 k h
      exact ⟨h1, h2, fun e => (n3 k (hk2 k e)).2.2.1 h⟩
    · exact ⟨by omega, fun e => by have := (nm k e).2; omega, fun e => by have := (n3 k (hk2 k e)).2.2.2; omega⟩
  have hmem8 : Row w8 B 3 1 mv r.mem.length (ints r.mem) := by
    rw [hm, ← hm']
    exact hmem7.touch (Touch.of_below hb (fun _ => False)) (fun _ _ => id)
  refine ⟨⟨fun x hx => ?_, ?_⟩, ?_, fun k hk => ?_⟩
  · simp only [mach, List.mem_cons, List.not_mem_nil, or_false] at hx
    rcases hx with rfl | rfl | rfl | rfl
    · exact ⟨hmb.1, hB9⟩
    · exact hs.touch hT (fun k hk e => (q2 k hk).1 e)
    · exact hk.touch hT (fun k hk e => (n3 k (hk2 k hk)).1 e)
    · exact hmem8.touch hT (fun k hk e => (nm k hk).1 e)
  · have e2 : blks (mach m sv2 bv2 mv r thr) = [m] ++ (roomBlock sv2).toList ++ (roomBlock bv2).toList ++ (roomBlock mv).toList := by
      unfold mach blks
      cases hh1 : roomBlock sv2 <;> cases hh2 : roomBlock bv2 <;> cases hh3 : roomBlock mv <;> simp [Res.blk, hh1, hh2, hh3]
    rw [e2]
    have s1 : ∀ k, roomBlock sv2 = some k → m ≠ k := fun k h => (q2 k h).1.symm
    have s2 : ∀ k, roomBlock sv2 = some k → roomBlock bv2 ≠ some k := fun k h => (q2 k h).2.2
    have s3 : ∀ k, roomBlock sv2 = some k → roomBlock mv ≠ some k := fun k h => (q2 k h).2.1
    have s4 : ∀ k, roomBlock bv2 = some k → m ≠ k := fun k h => (n3 k (hk2 k h)).1.symm
    have s5 : ∀ k, roomBlock bv2 = some k → roomBlock mv ≠ some k := fun k h => (n3 k (hk2 k h)).2.1
    have s6 : ∀ k, roomBlock mv = some k → m ≠ k := fun k h => (nm k h).1.symm
    clear n2 n3 nm q2 A e1 hs hk hs2 hk2 hmem7 hmem8 HN N hT hB9 e2
    cases hh1 : roomBlock sv2 <;> cases hh2 : roomBlock bv2 <;> cases hh3 : roomBlock mv <;> simp [List.nodup_append] <;> simp [hh1, hh2, hh3] at s1 s2 s3 s4 s5 s6
    · exact s6
    · exact s4
    · exact ⟨⟨s4, s6⟩, Ne.symm s5⟩
    · exact s1
    · exact ⟨⟨s1, s6⟩, Ne.symm s3⟩
    · exact ⟨⟨s1, s4⟩, Ne.symm s2⟩
    · exact ⟨⟨s1, s4, s6⟩, ⟨Ne.symm s2, Ne.symm s3⟩, Ne.symm s5⟩
  · refine (N.touch.trans (Touch.of_below hb (fun _ => False)) (fun _ h => h.elim)).trans hT (fun k h => ?_)
    subst h
    exact .inl (mem_blks.2 ⟨.st k 70 (mCells sv bv mv s t), by simp [mach], rfl⟩)
  · obtain ⟨x, hx, e⟩ := mem_blks.1 hk
    have hz := N.size
    simp only [mach, List.mem_cons, List.not_mem_nil, or_false] at hx
    rcases hx with rfl | rfl | rfl | rfl
    · left
      exact mem_blks.2 ⟨.st m 70 (mCells sv bv mv s t), by simp [mach], e⟩
    · rcases hs2 k e with h | h
      · exact N.new k (by rw [e1]; simp [h])
      · right; omega
    · exact N.new k (by rw [e1]; simp [hk2 k e])
    · left
      exact mem_blks.2 ⟨.row 3 1 mv s.mem.length (ints s.mem), by simp [mach], e⟩
theorem put_state {w : World} {m : Nat} {sv bv mv sv2 bv2 mv2 : Value} {s r : S} {t : Bool} (h : Blk w m 70 (mCells sv bv mv s t)) :
    Touch w ((((((((((w.setCell ⟨m, 0, none⟩ (.int .i64 r.ip)).setCell ⟨m, 1, none⟩ (.int .i64 r.handler)).setCell ⟨m, 2, none⟩ (sv2)).setCell ⟨m, 3, none⟩ (bv2)).setCell ⟨m, 4, none⟩ (mv2)).setCell ⟨m, 5, none⟩ (.string r.out)).setCell ⟨m, 6, none⟩ (.string r.inp)).setCell ⟨m, 7, none⟩ (.int .i64 r.read)).setCell ⟨m, 8, none⟩ (.int .i64 r.status)).setCell ⟨m, 9, none⟩ (.int .i64 r.code)) (fun k => k = m) ∧ Blk ((((((((((w.setCell ⟨m, 0, none⟩ (.int .i64 r.ip)).setCell ⟨m, 1, none⟩ (.int .i64 r.handler)).setCell ⟨m, 2, none⟩ (sv2)).setCell ⟨m, 3, none⟩ (bv2)).setCell ⟨m, 4, none⟩ (mv2)).setCell ⟨m, 5, none⟩ (.string r.out)).setCell ⟨m, 6, none⟩ (.string r.inp)).setCell ⟨m, 7, none⟩ (.int .i64 r.read)).setCell ⟨m, 8, none⟩ (.int .i64 r.status)).setCell ⟨m, 9, none⟩ (.int .i64 r.code)) m 70 (mCells sv2 bv2 mv2 r t) := by
  have two : ∀ {a b : World} (i : Nat) (u : Value), Touch a b (fun k => k = m) → Touch a (b.setCell ⟨m, i, none⟩ u) (fun k => k = m) := fun i u T => T.trans (set_touch _ m i u) (fun _ h => .inl h)
  constructor
  · refine two _ _ ?_; refine two _ _ ?_; refine two _ _ ?_; refine two _ _ ?_; refine two _ _ ?_; refine two _ _ ?_; refine two _ _ ?_; refine two _ _ ?_; refine two _ _ ?_; refine two _ _ ?_; exact Touch.refl _ _
  · unfold mCells at *
    have h0 := h.set_ 0 (.int .i64 r.ip)
    simp only [List.setIfInBounds_toArray, List.set_cons_zero, List.set_cons_succ] at h0
    clear h
    have h1 := h0.set_ 1 (.int .i64 r.handler)
    simp only [List.setIfInBounds_toArray, List.set_cons_zero, List.set_cons_succ] at h1
    clear h0
    have h2 := h1.set_ 2 (sv2)
    simp only [List.setIfInBounds_toArray, List.set_cons_zero, List.set_cons_succ] at h2
    clear h1
    have h3 := h2.set_ 3 (bv2)
    simp only [List.setIfInBounds_toArray, List.set_cons_zero, List.set_cons_succ] at h3
    clear h2
    have h4 := h3.set_ 4 (mv2)
    simp only [List.setIfInBounds_toArray, List.set_cons_zero, List.set_cons_succ] at h4
    clear h3
    have h5 := h4.set_ 5 (.string r.out)
    simp only [List.setIfInBounds_toArray, List.set_cons_zero, List.set_cons_succ] at h5
    clear h4
    have h6 := h5.set_ 6 (.string r.inp)
    simp only [List.setIfInBounds_toArray, List.set_cons_zero, List.set_cons_succ] at h6
    clear h5
    have h7 := h6.set_ 7 (.int .i64 r.read)
    simp only [List.setIfInBounds_toArray, List.set_cons_zero, List.set_cons_succ] at h7
    clear h6
    have h8 := h7.set_ 8 (.int .i64 r.status)
    simp only [List.setIfInBounds_toArray, List.set_cons_zero, List.set_cons_succ] at h8
    clear h7
    have h9 := h8.set_ 9 (.int .i64 r.code)
    simp only [List.setIfInBounds_toArray, List.set_cons_zero, List.set_cons_succ] at h9
    clear h8
    exact h9
theorem faulty_any (B : Nat) (sv bv mv : Value) (s : S) (code : Int) (w : World) (H : StRows w B sv bv mv s) (W : Wf s) (hB : B ≤ w.heap.size) :
    Calls Tryz.prog 46 #[.agg (sCells sv bv mv s), .int .i64 code] w fun e w' => ∃ sv2 bv2, e = .returned (.agg (sCells sv2 bv2 mv (faulty s code))) ∧ Row w' B 3 1 sv2 (faulty s code).stack.length (ints (faulty s code).stack) ∧
      (∀ k, roomBlock sv2 = some k → roomBlock sv = some k ∨ w.heap.size ≤ k) ∧ Row w' B 3 1 bv2 (faulty s code).back.length (ints (faulty s code).back) ∧ (∀ k, roomBlock bv2 = some k → roomBlock bv = some k) ∧ Below w.heap.size w w' := by
  cases hc : caught s with
  | none =>
    have hf : faulty s code = { s with status := 2, code := code } := by unfold faulty; rw [hc]
    rw [hf]
    refine (faulty_none B sv bv mv s code w H W hc).mono ?_
    rintro e w' ⟨rfl, hb⟩
    have R := H.below hb (Nat.le_refl _)
    exact ⟨sv, bv, rfl, R.st, fun k h => .inl h, R.bk, fun k h => h, hb⟩
  | some n =>
    refine (faulty_some B sv bv mv s code w H W n hc).mono ?_
    rintro e w' ⟨sv2, bv2, rfl, hs, ⟨A, c, k, rfl, rfl, hk, hbk, hkl⟩, hb⟩
    have R := (H.below hb (Nat.le_refl _)).bk.take hk
    rw [Nat.mul_one, ints_take, ← hbk] at R
    rw [hkl] at R
    refine ⟨sv2, _, by rw [← hkl], hs.mono hB, fun k h => .inr (hs.lt k h).1, R, fun k h => ?_, hb⟩
    cases A with
    | none => simp [roomBlock] at h
    | some a => cases c with
      | zero => simp [roomBlock] at h
      | succ c => simpa [roomBlock] using h
theorem ErrIs.set {w : World} {b i : Nat} {u : Value} {cs : Array Value} (hb : Blk w b 33 cs) {code ip : Int} : ∀ {ws : List ByteArray} {v : Value}, Ft.ErrIs w code ip ws v → Ft.ErrIs (w.setCell ⟨b, i, none⟩ u) code ip ws v
  | [], _, ⟨x, h1, h2⟩ => ⟨x, h1, h2.far (p := ⟨b, i, none⟩) (h2.ne_ hb (by decide)) u⟩
  | _ :: _, _, ⟨x, y, h1, h2, h3⟩ => ⟨x, y, h1, h2.far (p := ⟨b, i, none⟩) (h2.ne_ hb (by decide)) u, ErrIs.set hb h3⟩
end Go.Proofs.YtompdfpjmdnhoabGreatDoor.Mc
