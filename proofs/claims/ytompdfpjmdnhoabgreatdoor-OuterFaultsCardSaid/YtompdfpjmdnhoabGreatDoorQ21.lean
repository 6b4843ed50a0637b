/-
  Lemmas on the way, for every input that they name: McK, McL.
-/
import Derived.Test.YtompdfpjmdnhoabGreatDoorQ08
import Derived.Test.YtompdfpjmdnhoabGreatDoorQ20
set_option linter.unusedVariables false
set_option linter.unusedSimpArgs false
set_option linter.deprecated false
namespace Go.Proofs.YtompdfpjmdnhoabGreatDoor.Mc
open Go.RowKit Go.Proofs.YtompdfpjmdnhoabGreatDoor.Rs Go.Proofs.YtompdfpjmdnhoabGreatDoor.Ft
set_option maxHeartbeats 1000000 in
set_option maxRecDepth 100000 in
theorem flow44_low (B m : Nat) (sv bv mv : Value) (s : S) (w : World) (H : Held w B (mach m sv bv mv s false)) (hB : B ≤ w.heap.size) (x : Int) (hx : top s.stack = x) (hb : x < 64) (hs : 1 ≤ s.stack.length) (hs2 : s.stack.length ≤ 100) (hm : s.mem.length ≤ 5000) : Calls Tryz.prog 106 #[.pointer (some ⟨m, 0, none⟩), .int .i64 44] w (Acts w B m sv bv mv s (.bad (-13) false)) := by
  obtain ⟨MA, mc, rfl⟩ := (m_mem H).slice
  have Hx := Lib.hid hx
  clear hx
  go_enter Tryz.func106, Tryz.ntmps106
  go_wp2_with fail
  refine (pop_any B m _ _ _ s false _ H (ne_of_pos (by omega)) (by omega)).mono ?_
  rintro e w1 ⟨rfl, sv1, bv1, N1⟩
  have K1 := Lib.hid N1.held
  have G1 := Lib.hid (⟨sv1, bv1, N1⟩ : Goes w B m sv bv _ s false (pop s) _ w1)
  have M1 := Lib.hid N1
  have hb1 : B ≤ w1.heap.size := Nat.le_trans hB N1.touch.size
  clear N1
  rw [Hx.out]
  have k1 := m_blk K1.out
  have c4 : w1.cell? ⟨m, 4, none⟩ = some (.slice MA s.mem.length mc) := k1.cell 4
  have c0 : w1.cell? ⟨m, 0, none⟩ = some (.int .i64 s.ip) := k1.cell 0
  clear k1
  go_wp2_with fail
  refine (fails_any B m _ _ _ (pop s) false _ K1.out (-13) (by decide)).mono ?_
  rintro e w3 ⟨v, ip, ws, rfl, h1, h2⟩
  have Hv : Hid (Acts w B m sv bv _ s (.bad (-13) false) (.returned v) w3) := ⟨v, ip, ws, rfl, h1, pop s, rfl, Goes.of_below G1.out h2 (Nat.le_refl _)⟩
  obtain ⟨T, p, rfl⟩ := h1.form
  clear h1 h2
  go_wp2_with fail
  go_ret
  exact Hv.out
set_option maxHeartbeats 1000000 in
set_option maxRecDepth 100000 in
theorem flow44_high (B m : Nat) (sv bv mv : Value) (s : S) (w : World) (H : Held w B (mach m sv bv mv s false)) (hB : B ≤ w.heap.size) (x : Int) (hx : top s.stack = x) (hb : 64 ≤ x) (hb3 : (s.mem.length : Int) ≤ x) (hs : 1 ≤ s.stack.length) (hs2 : s.stack.length ≤ 100) (hm : s.mem.length ≤ 5000) : Calls Tryz.prog 106 #[.pointer (some ⟨m, 0, none⟩), .int .i64 44] w (Acts w B m sv bv mv s (.bad (-13) false)) := by
  obtain ⟨MA, mc, rfl⟩ := (m_mem H).slice
  have Hx := Lib.hid hx
  clear hx
  go_enter Tryz.func106, Tryz.ntmps106
  go_wp2_with fail
  refine (pop_any B m _ _ _ s false _ H (ne_of_pos (by omega)) (by omega)).mono ?_
  rintro e w1 ⟨rfl, sv1, bv1, N1⟩
  have K1 := Lib.hid N1.held
  have G1 := Lib.hid (⟨sv1, bv1, N1⟩ : Goes w B m sv bv _ s false (pop s) _ w1)
  have M1 := Lib.hid N1
  have hb1 : B ≤ w1.heap.size := Nat.le_trans hB N1.touch.size
  clear N1
  rw [Hx.out]
  have k1 := m_blk K1.out
  have c4 : w1.cell? ⟨m, 4, none⟩ = some (.slice MA s.mem.length mc) := k1.cell 4
  have c0 : w1.cell? ⟨m, 0, none⟩ = some (.int .i64 s.ip) := k1.cell 0
  clear k1
  have hb4 : ¬ x < 64 := by omega
  go_wp2_with fail
  refine (fails_any B m _ _ _ (pop s) false _ K1.out (-13) (by decide)).mono ?_
  rintro e w3 ⟨v, ip, ws, rfl, h1, h2⟩
  have Hv : Hid (Acts w B m sv bv _ s (.bad (-13) false) (.returned v) w3) := ⟨v, ip, ws, rfl, h1, pop s, rfl, Goes.of_below G1.out h2 (Nat.le_refl _)⟩
  obtain ⟨T, p, rfl⟩ := h1.form
  clear h1 h2
  go_wp2_with fail
  go_ret
  exact Hv.out
set_option maxHeartbeats 1000000 in
set_option maxRecDepth 100000 in
theorem flow44_ok (B m : Nat) (sv bv mv : Value) (s : S) (w : World) (H : Held w B (mach m sv bv mv s false)) (hB : B ≤ w.heap.size) (x : Int) (hx : top s.stack = x) (hb : 64 ≤ x) (hb3 : x < (s.mem.length : Int)) (hs : 1 ≤ s.stack.length) (hs2 : s.stack.length ≤ 100) (hb2 : s.back.length ≤ 100) (hm : s.mem.length ≤ 5000) : Calls Tryz.prog 106 #[.pointer (some ⟨m, 0, none⟩), .int .i64 44] w (Acts w B m sv bv mv s (.ok { lay (pop s) [s.ip] with ip := x })) := by
  obtain ⟨MA, mc, rfl⟩ := (m_mem H).slice
  have Hx := Lib.hid hx
  clear hx
  go_enter Tryz.func106, Tryz.ntmps106
  go_wp2_with fail
  refine (pop_any B m _ _ _ s false _ H (ne_of_pos (by omega)) (by omega)).mono ?_
  rintro e w1 ⟨rfl, sv1, bv1, N1⟩
  have K1 := Lib.hid N1.held
  have G1 := Lib.hid (⟨sv1, bv1, N1⟩ : Goes w B m sv bv _ s false (pop s) _ w1)
  have M1 := Lib.hid N1
  have hb1 : B ≤ w1.heap.size := Nat.le_trans hB N1.touch.size
  clear N1
  rw [Hx.out]
  have k1 := m_blk K1.out
  have c4 : w1.cell? ⟨m, 4, none⟩ = some (.slice MA s.mem.length mc) := k1.cell 4
  have c0 : w1.cell? ⟨m, 0, none⟩ = some (.int .i64 s.ip) := k1.cell 0
  clear k1
  go_wp2_with fail
  refine (back_lit B m _ _ _ (pop s) false _ K1.out hb1 [s.ip] _ rfl _ _ rfl (by show s.back.length + 1 ≤ 1000; omega)).mono ?_
  rintro e w2 ⟨rfl, sv2, bv2, N⟩
  have k2 := m_blk N.held
  have d0 : w2.cell? ⟨m, 0, none⟩ = some (.int .i64 s.ip) := k2.cell 0
  have f0 := k2.frozen 0
  have M2 := Lib.hid (m_ip (M1.out.trans N) x)
  clear N k2
  go_wp2_with fail
  go_ret
  exact ⟨rfl, false, _, _, M2.out⟩
set_option maxHeartbeats 1000000 in
set_option maxRecDepth 100000 in
theorem flow45_zero (B m : Nat) (sv bv mv : Value) (s : S) (w : World) (H : Held w B (mach m sv bv mv s false)) (hB : B ≤ w.heap.size) (hx : top s.stack = 0) (hs : 1 ≤ s.stack.length) (hs2 : s.stack.length ≤ 100) : Calls Tryz.prog 106 #[.pointer (some ⟨m, 0, none⟩), .int .i64 45] w (Acts w B m sv bv mv s (.ok (pop s))) := by
  have Hx := Lib.hid hx
  clear hx
  have k := m_blk H
  have c10 : w.cell? ⟨m, 10, none⟩ = some (.bool false) := k.cell 10
  have f10 := k.frozen 10
  have N0 := m_threw (Turns.refl H) true
  have k0 := m_blk N0.held
  have c0 : (w.setCell ⟨m, 10, none⟩ (.bool true)).cell? ⟨m, 0, none⟩ = some (.int .i64 s.ip) := k0.cell 0
  have M0 := Lib.hid N0
  clear k k0 N0 H
  go_enter Tryz.func106, Tryz.ntmps106
  go_wp2_with fail
  go_wp2_with fail
  go_region_with (first | (go_at_call 98; refine (pop_any B m _ _ mv s true _ M0.out.held.drew (ne_of_pos (by omega)) (by omega)).mono ?_; rintro e w2 ⟨rfl, sv2, bv2, N⟩; rw [Hx.out]; have k2 := m_blk N.held; have d0 : w2.cell? ⟨m, 0, none⟩ = some (.int .i64 s.ip) := k2.cell 0; have HN := Lib.hid N; clear N k2) | (go_at_call 94; refine (new_zero s.ip _).mono ?_; rintro e w3 ⟨rfl, rfl⟩))
  all_goals
    go_wp2_with fail
    go_ret
    exact ⟨rfl, true, _, _, M0.out.drew.trans HN.out⟩
set_option maxHeartbeats 1000000 in
set_option maxRecDepth 100000 in
theorem flow45_throw (B m : Nat) (sv bv mv : Value) (s : S) (w : World) (H : Held w B (mach m sv bv mv s false)) (hB : B ≤ w.heap.size) (x : Int) (hx : top s.stack = x) (hz : x ≠ 0) (hs : 1 ≤ s.stack.length) (hs2 : s.stack.length ≤ 100) : Calls Tryz.prog 106 #[.pointer (some ⟨m, 0, none⟩), .int .i64 45] w (Acts w B m sv bv mv s (.bad x true)) := by
  have Hx := Lib.hid hx
  have Hz := Lib.hid hz
  clear hx hz
  have k := m_blk H
  have c10 : w.cell? ⟨m, 10, none⟩ = some (.bool false) := k.cell 10
  have f10 := k.frozen 10
  have N0 := m_threw (Turns.refl H) true
  have k0 := m_blk N0.held
  have c0 : (w.setCell ⟨m, 10, none⟩ (.bool true)).cell? ⟨m, 0, none⟩ = some (.int .i64 s.ip) := k0.cell 0
  have M0 := Lib.hid N0
  clear k k0 N0 H
  go_enter Tryz.func106, Tryz.ntmps106
  go_wp2_with fail
  go_wp2_with fail
  go_region_with (first | (go_at_call 98; refine (pop_any B m _ _ mv s true _ M0.out.held.drew (ne_of_pos (by omega)) (by omega)).mono ?_; rintro e w2 ⟨rfl, sv2, bv2, N⟩; rw [Hx.out]; have k2 := m_blk N.held; have d0 : w2.cell? ⟨m, 0, none⟩ = some (.int .i64 s.ip) := k2.cell 0; have HN := Lib.hid N; clear N k2) | (go_at_call 94; refine (new_any x s.ip Hz.out _).mono ?_; rintro e w3 ⟨v, rfl, h1, h2⟩; have Hv : Hid (Acts w B m sv bv mv s (.bad x true) (.returned v) w3) := ⟨v, _, _, rfl, h1, pop s, rfl, _, _, (M0.out.drew.trans HN.out).trans (Turns.of_below HN.out.held h2 (Nat.le_refl _))⟩; obtain ⟨T, p, rfl⟩ := h1.form; clear h1 h2))
  all_goals
    go_wp2_with fail
    go_ret
    exact Hv.out
set_option maxHeartbeats 1000000 in
set_option maxRecDepth 100000 in
theorem flow46 (B m : Nat) (sv bv mv : Value) (s : S) (w : World) (H : Held w B (mach m sv bv mv s false)) (hB : B ≤ w.heap.size) (x : Int) (hx : top s.stack = x) (hs : 1 ≤ s.stack.length) (hs2 : s.stack.length ≤ 100) (hb2 : s.back.length ≤ 100) : Calls Tryz.prog 106 #[.pointer (some ⟨m, 0, none⟩), .int .i64 46] w (Acts w B m sv bv mv s (.ok { lay (pop s) [s.ip, s.handler, (s.stack.length : Int) - 1, 1] with handler := (s.back.length : Int) + 3, ip := x })) := by
  obtain ⟨n, hn⟩ : ∃ n : Nat, s.stack.dropLast.length = n := ⟨_, rfl⟩
  obtain ⟨s2, hs3⟩ : ∃ s2, lay (pop s) [s.ip, s.handler, (n : Int)] = s2 := ⟨_, rfl⟩
  have hfin : ({ lay (pop s) [s.ip, s.handler, (s.stack.length : Int) - 1, 1] with handler := (s.back.length : Int) + 3, ip := x } : S) = { lay { s2 with handler := (s2.back.length : Nat) } [1] with ip := x } := by
    have h1 : (n : Int) = (s.stack.length : Int) - 1 := by rw [← hn, List.length_dropLast]; omega
    rw [← hs3, h1]
    have h2 : (((lay (pop s) [s.ip, s.handler, (s.stack.length : Int) - 1]).back.length : Nat) : Int) = (s.back.length : Int) + 3 := by show (((s.back ++ [s.ip, s.handler, (s.stack.length : Int) - 1]).length : Nat) : Int) = _; simp
    rw [h2]
    have h3 : (lay (pop s) [s.ip, s.handler, (s.stack.length : Int) - 1, 1]).back = (s.back ++ [s.ip, s.handler, (s.stack.length : Int) - 1]) ++ [1] := by show s.back ++ _ = _; simp
    unfold lay at h3 ⊢
    simp only [pop] at h3 ⊢
    rw [h3]
  have hl : s2.back.length ≤ 200 := by rw [← hs3]; show (s.back ++ [s.ip, s.handler, (n : Int)]).length ≤ 200; simp; omega
  rw [hfin]
  have Hx := Lib.hid hx
  have Hn := Lib.hid hn
  have H3 := Lib.hid hs3
  clear hx hfin hn hs3
  go_enter Tryz.func106, Tryz.ntmps106
  go_wp2_with fail
  refine (pop_any B m _ _ mv s false _ H (ne_of_pos (by omega)) (by omega)).mono ?_
  rintro e w1 ⟨rfl, sv1, bv1, N1⟩
  have K1 := Lib.hid N1.held
  have G1 := Lib.hid (⟨sv1, bv1, N1⟩ : Goes w B m sv bv mv s false (pop s) _ w1)
  have M1 := Lib.hid N1
  have hb1 : B ≤ w1.heap.size := Nat.le_trans hB N1.touch.size
  clear N1
  rw [Hx.out]
  obtain ⟨SA, sc, rfl⟩ := (m_stack K1.out).slice
  have k1 := m_blk K1.out
  have c0 : w1.cell? ⟨m, 0, none⟩ = some (.int .i64 s.ip) := k1.cell 0
  have c1 : w1.cell? ⟨m, 1, none⟩ = some (.int .i64 s.handler) := k1.cell 1
  have c2 : w1.cell? ⟨m, 2, none⟩ = some (.slice SA s.stack.dropLast.length sc) := k1.cell 2
  rw [Hn.out] at c2
  clear k1
  have HBk := Lib.hid (back_lit B m _ _ mv (pop s) false _ K1.out.drew hb1 [s.ip, s.handler, (n : Int)] _ rfl 3 3 rfl (by show s.back.length + 3 ≤ 1000; omega))
  go_wp2_with fail
  go_region_with ((go_at_call 93; refine HBk.out.mono ?_; rintro e w2 ⟨rfl, sv2, bv2, N⟩; rw [H3.out] at N; have M2 := Lib.hid (M1.out.drew.trans N); clear N))
  all_goals
    obtain ⟨BA, bc, rfl⟩ := (m_back M2.out.held).slice
    have k2 := m_blk M2.out.held
    have d1 : w2.cell? ⟨m, 1, none⟩ = some (.int .i64 s2.handler) := k2.cell 1
    have f1 := k2.frozen 1
    have d3 : w2.cell? ⟨m, 3, none⟩ = some (.slice BA s2.back.length bc) := k2.cell 3
    have M3 := Lib.hid (m_handler M2.out (s2.back.length : Int))
    clear k2
    go_wp2_with fail
    refine (back_lit' B m _ _ mv { s2 with handler := (s2.back.length : Int) } false _ M3.out.held (Nat.le_trans hB M3.out.touch.size) [1] _ rfl _ _ rfl (by show s2.back.length + 1 ≤ 1000; omega) _ (by simp)).mono ?_
    rintro e w3 ⟨rfl, sv3, bv3, N⟩
    have k3 := m_blk N.held
    have d0 : w3.cell? ⟨m, 0, none⟩ = some (.int .i64 s2.ip) := k3.cell 0
    have f0 := k3.frozen 0
    have M4 := Lib.hid (m_ip (M3.out.trans N) x)
    clear N k3
    go_wp2_with fail
    go_ret
    exact ⟨rfl, false, _, _, M4.out⟩
end Go.Proofs.YtompdfpjmdnhoabGreatDoor.Mc
namespace Go.Proofs.YtompdfpjmdnhoabGreatDoor.Mc
open Go.RowKit Go.Proofs.YtompdfpjmdnhoabGreatDoor.Rs Go.Proofs.YtompdfpjmdnhoabGreatDoor.Ft
theorem top_mem {l : List Int} (h : 0 < l.length) : top l ∈ l := by
  unfold top
  rw [List.getD_eq_getElem?_getD, List.getElem?_eq_getElem (by omega)]
  exact List.getElem_mem _
section
variable {w w1 : World} {B m : Nat} {sv bv mv : Value} {s : S} {r : Rslt} {e : Ending}
theorem acts_form (h : Acts w B m sv bv mv s r e w1) : e = .returned .nilIface ∨ ∃ T p, e = .returned (.iface T p) := by
  cases r with
  | ok s' => exact .inl h.1
  | bad c t =>
    obtain ⟨v, ip, ws, rfl, h1, _⟩ := h
    obtain ⟨T, p, rfl⟩ := h1.form
    exact .inr ⟨T, p, rfl⟩
theorem acts_ok {s' : S} {t : Bool} (h : Goes w B m sv bv mv s false s' t w1) : Acts w B m sv bv mv s (.ok s') (.returned .nilIface) w1 := ⟨rfl, t, h⟩
end
theorem memory_any (c : Int) (hc : c = 30 ∨ c = 31 ∨ c = 32) (B m : Nat) (sv bv mv : Value) (s : S) (w : World) (H : Held w B (mach m sv bv mv s false)) (hB : B ≤ w.heap.size) (W : Wf s) (hs : (moves c).1 ≤ s.stack.length) :
    Calls Tryz.prog 101 #[.pointer (some ⟨m, 0, none⟩), .int .i64 c] w (Acts w B m sv bv mv s (memory s c)) := by
  have hs2 := W.ns
  have hm := W.nm
  cases hl : load s (top s.stack) with
  | none =>
    have : memory s c = .bad (-9) false := by unfold memory; simp only [hl]
    rw [this]
    exact memory_bad B m sv bv mv s w H hB c hl (by rcases hc with rfl | rfl | rfl <;> (have : _ ≤ s.stack.length := hs; simp [moves] at this; omega)) (by omega) (by omega)
  | some v =>
    unfold load at hl
    split at hl
    · rename_i h0
      obtain ⟨i, hi⟩ : ∃ i : Nat, top s.stack = i := ⟨(top s.stack).toNat, by omega⟩
      injection hl with hl
      rw [hi, Int.toNat_natCast] at hl
      have hi2 : i < s.mem.length := by omega
      have hld : load s (top s.stack) = some v := by unfold load; rw [if_pos h0, hi, Int.toNat_natCast, hl]
      rcases hc with rfl | rfl | rfl
      · have : memory s 30 = .ok (push (pop s) [s.mem.getD i 0]) := by unfold memory; simp only [hld, if_true]; rw [hl]
        rw [this]
        exact memory30 B m sv bv mv s w H hB i hi hi2 (by simpa [moves] using hs) (by omega) (by omega)
      · have : memory s 31 = .ok { pop (pop s) with mem := s.mem.set i (wr (0 + top (pop s).stack)) } := by unfold memory; simp only [hld]; rw [if_neg (by decide), if_pos trivial, hi, Int.toNat_natCast]
        rw [this]
        exact memory31 B m sv bv mv s w H hB i hi hi2 (by simpa [moves] using hs) (by omega) (by omega)
      · have : memory s 32 = .ok { pop (pop s) with mem := s.mem.set i (wr (s.mem.getD i 0 + top (pop s).stack)) } := by unfold memory; simp only [hld]; rw [if_neg (by decide), if_neg (by decide), hi, Int.toNat_natCast, hl]
        rw [this]
        exact memory32 B m sv bv mv s w H hB i hi hi2 (by simpa [moves] using hs) (by omega) (by omega)
    · cases hl
theorem loop_any (c arg : Int) (hc : c = 37 ∨ c = 38) (B m : Nat) (sv bv mv : Value) (s : S) (w : World) (H : Held w B (mach m sv bv mv s false)) (hB : B ≤ w.heap.size) (W : Wf s) (hs : (moves c).1 ≤ s.stack.length) (hb : (moves c).2.1 ≤ s.back.length) :
    Calls Tryz.prog 103 #[.pointer (some ⟨m, 0, none⟩), .int .i64 c, .int .i64 arg] w fun e w' => e = .returned (.tuple #[]) ∧ Goes w B m sv bv mv s false (loop s c arg) false w' := by
  have hs2 := W.ns
  have hb2 := W.nb
  rcases hc with rfl | rfl
  · by_cases h : wrap64 (top s.back + 1) = top (popBack s).back
    · exact loop37_end B m sv bv mv s false w H hB arg (by simpa [moves] using hb) (by omega) h
    · exact loop37_on B m sv bv mv s false w H hB arg (by simpa [moves] using hb) (by omega) h
  · cases h : crosses (wr (top s.back - top (popBack s).back)) (top s.stack) with
    | true => exact loop38_end B m sv bv mv s false w H hB arg (by simpa [moves] using hb) (by omega) (by simpa [moves] using hs) (by omega) h
    | false => exact loop38_on B m sv bv mv s false w H hB arg (by simpa [moves] using hb) (by omega) (by simpa [moves] using hs) (by omega) h
theorem reckon_any (c : Int) (hc : c ∈ ones ∨ c ∈ twos) (B m : Nat) (sv bv mv : Value) (s : S) (w : World) (H : Held w B (mach m sv bv mv s false)) (hB : B ≤ w.heap.size) (W : Wf s) (hs : (moves c).1 ≤ s.stack.length) :
    Calls Tryz.prog 107 #[.pointer (some ⟨m, 0, none⟩), .int .i64 c] w (Acts w B m sv bv mv s (reckon s c)) := by
  have hs2 := W.ns
  rcases hc with hc | hc
  · have h1 : 1 ≤ s.stack.length := by
      simp only [ones, List.mem_cons, List.not_mem_nil, or_false] at hc
      rcases hc with rfl | rfl | rfl | rfl <;> simpa [moves] using hs
    obtain ⟨v, hv⟩ : ∃ v, one c (top s.stack) = some v := by
      simp only [ones, List.mem_cons, List.not_mem_nil, or_false] at hc
      rcases hc with rfl | rfl | rfl | rfl <;> exact ⟨_, rfl⟩
    have : reckon s c = .ok (push (pop s) [v]) := by unfold reckon; simp only [hv]
    rw [this]
    exact reckon_one B m sv bv mv s w H hB c v hc hv h1 (by omega)
  · have h2 : 2 ≤ s.stack.length := by
      simp only [twos, List.mem_cons, List.not_mem_nil, or_false] at hc
      rcases hc with rfl | rfl | rfl | rfl | rfl | rfl | rfl | rfl | rfl | rfl | rfl | rfl | rfl | rfl | rfl <;> simpa [moves] using hs
    have hn : one c (top s.stack) = none := by
      simp only [twos, List.mem_cons, List.not_mem_nil, or_false] at hc
      rcases hc with rfl | rfl | rfl | rfl | rfl | rfl | rfl | rfl | rfl | rfl | rfl | rfl | rfl | rfl | rfl <;> rfl
    cases hv : two c (top (pop s).stack) (top s.stack) with
    | some v =>
      have : reckon s c = .ok (push (pop (pop s)) [v]) := by unfold reckon; simp only [hn, hv]
      rw [this]
      exact reckon_two B m sv bv mv s w H hB c v hc hv h2 (by omega)
    | none =>
      have : reckon s c = .bad (-10) false := by unfold reckon; simp only [hn, hv]
      rw [this]
      exact reckon_bad B m sv bv mv s w H hB c hc hv h2 (by omega)
def sayR (s : S) (c : Int) : Rslt := if c = 41 then write (pop s) ⟨#[byteOf (top s.stack)]⟩ else write (pop s) (⟨(Dg.putV (top s.stack) 10).toArray⟩ ++ ⟨#[32]⟩)
theorem say_any (c : Int) (hc : c = 41 ∨ c = 42) (B m : Nat) (sv bv mv : Value) (s : S) (w : World) (H : Held w B (mach m sv bv mv s false)) (hB : B ≤ w.heap.size) (W : Wf s) (hs : 1 ≤ s.stack.length) :
    Calls Tryz.prog 104 #[.pointer (some ⟨m, 0, none⟩), .int .i64 c] w (Acts w B m sv bv mv s (sayR s c)) := by
  have hs2 := W.ns
  have ho := W.ot
  rcases hc with rfl | rfl
  · by_cases h : 2000 < s.out.size + (⟨#[byteOf (top s.stack)]⟩ : ByteArray).size
    · have : sayR s 41 = .bad (-57) false := by unfold sayR; rw [if_pos rfl]; exact if_pos h
      rw [this]
      exact say41_full B m sv bv mv s w H hB _ _ rfl rfl h (by omega) hs (by omega)
    · have : sayR s 41 = .ok { pop s with out := s.out ++ ⟨#[byteOf (top s.stack)]⟩ } := by unfold sayR; rw [if_pos rfl]; exact if_neg h
      rw [this]
      exact say41_ok B m sv bv mv s w H hB _ _ rfl rfl (by omega) hs (by omega)
  · have hin := W.st _ (top_mem hs)
    by_cases h : 2000 < s.out.size + ((⟨(Dg.putV (top s.stack) 10).toArray⟩ : ByteArray) ++ ⟨#[32]⟩).size
    · have : sayR s 42 = .bad (-57) false := by unfold sayR; rw [if_neg (by decide)]; exact if_pos h
      rw [this]
      exact say42_full B m sv bv mv s w H hB _ _ rfl rfl h (by omega) hs (by omega) hin.1 hin.2
    · have : sayR s 42 = .ok { pop s with out := s.out ++ (⟨(Dg.putV (top s.stack) 10).toArray⟩ ++ ⟨#[32]⟩) } := by unfold sayR; rw [if_neg (by decide)]; exact if_neg h
      rw [this]
      exact say42_ok B m sv bv mv s w H hB _ _ rfl rfl (by omega) hs (by omega) hin.1 hin.2
theorem key_any (B m : Nat) (sv bv mv : Value) (s : S) (w : World) (H : Held w B (mach m sv bv mv s false)) (hB : B ≤ w.heap.size) (W : Wf s) :
    Calls Tryz.prog 105 #[.pointer (some ⟨m, 0, none⟩)] w fun e w' => e = .returned (.tuple #[]) ∧ Goes w B m sv bv mv s false (key s) false w' := by
  have hs2 := W.ns
  by_cases h : (s.inp.size : Int) ≤ s.read
  · exact key_end B m sv bv mv s false w H hB h (by omega)
  · have := W.rd
    exact key_byte B m sv bv mv s false w H hB s.read.toNat (by omega) (by omega) W.inp (by omega)
theorem endCatch_any (B m : Nat) (sv bv mv : Value) (s : S) (w : World) (H : Held w B (mach m sv bv mv s false)) (hB : B ≤ w.heap.size) (W : Wf s) :
    Calls Tryz.prog 136 #[.pointer (some ⟨m, 0, none⟩)] w (Acts w B m sv bv mv s (endCatch s)) := by
  have hs2 := W.ns
  have hb2 := W.nb
  unfold endCatch
  by_cases h1 : s.handler < 3
  · rw [if_pos (.inl h1)]
    exact endCatch_low B m sv bv mv s w H hB h1 (by omega) (by omega)
  · by_cases h2 : (s.back.length : Int) = s.handler
    · rw [if_neg (by omega)]
      by_cases h3 : 48 ≤ s.stack.length
      · rw [if_pos h3]
        exact endCatch_full B m sv bv mv s w H hB (by omega) h2 h3 (by omega) (by omega)
      · rw [if_neg h3]
        exact endCatch_ok B m sv bv mv s w H hB (by omega) h2 (by omega) (by omega)
    · rw [if_pos (.inr h2)]
      exact endCatch_ne B m sv bv mv s w H hB (by omega) h2 (by omega) (by omega)
set_option maxHeartbeats 1000000 in
theorem flow_any (c : Int) (hc : c = 44 ∨ c = 45 ∨ c = 46 ∨ c = 1) (B m : Nat) (sv bv mv : Value) (s : S) (w : World) (H : Held w B (mach m sv bv mv s false)) (hB : B ≤ w.heap.size) (W : Wf s) (hs : (moves c).1 ≤ s.stack.length) :
    Calls Tryz.prog 106 #[.pointer (some ⟨m, 0, none⟩), .int .i64 c] w (Acts w B m sv bv mv s (flow s c)) := by
  have hs2 := W.ns
  have hb2 := W.nb
  have hm := W.nm
  rcases hc with rfl | rfl | rfl | rfl
  · have h1 : 1 ≤ s.stack.length := hs
    by_cases h : top s.stack < 64
    · have : flow s 44 = .bad (-13) false := by unfold flow; rw [if_pos rfl]; exact if_pos (.inl h)
      rw [this]
      exact flow44_low B m sv bv mv s w H hB _ rfl h h1 (by omega) (by omega)
    · by_cases h' : (s.mem.length : Int) ≤ top s.stack
      · have : flow s 44 = .bad (-13) false := by unfold flow; rw [if_pos rfl]; exact if_pos (.inr h')
        rw [this]
        exact flow44_high B m sv bv mv s w H hB _ rfl (by omega) h' h1 (by omega) (by omega)
      · have : flow s 44 = .ok { lay (pop s) [s.ip] with ip := top s.stack } := by unfold flow; rw [if_pos rfl]; exact if_neg (by omega)
        rw [this]
        exact flow44_ok B m sv bv mv s w H hB _ rfl (by omega) (by omega) h1 (by omega) (by omega) (by omega)
  · have h1 : 1 ≤ s.stack.length := hs
    by_cases h : top s.stack = 0
    · have : flow s 45 = .ok (pop s) := by unfold flow; rw [if_neg (by decide), if_pos rfl]; exact if_pos h
      rw [this]
      exact flow45_zero B m sv bv mv s w H hB h h1 (by omega)
    · have : flow s 45 = .bad (top s.stack) true := by unfold flow; rw [if_neg (by decide), if_pos rfl]; exact if_neg h
      rw [this]
      exact flow45_throw B m sv bv mv s w H hB _ rfl h h1 (by omega)
  · have h1 : 1 ≤ s.stack.length := hs
    have : flow s 46 = .ok { lay (pop s) [s.ip, s.handler, (s.stack.length : Int) - 1, 1] with handler := (s.back.length : Int) + 3, ip := top s.stack } := by unfold flow; rw [if_neg (by decide), if_neg (by decide), if_pos rfl]
    rw [this]
    exact flow46 B m sv bv mv s w H hB _ rfl h1 (by omega) (by omega)
  · have : flow s 1 = endCatch s := by unfold flow; rw [if_neg (by decide), if_neg (by decide), if_neg (by decide)]
    rw [this]
    have HE := Lib.hid (endCatch_any B m sv bv mv s w H hB W)
    clear H W hs this
    go_enter Tryz.func106, Tryz.ntmps106
    go_wp2_with fail
    refine HE.out.mono ?_
    rintro e w1 h
    have HA := Lib.hid h
    rcases acts_form h with rfl | ⟨T, p, rfl⟩
    all_goals
      clear h
      go_wp2_with fail
      go_ret
      exact HA.out
end Go.Proofs.YtompdfpjmdnhoabGreatDoor.Mc
