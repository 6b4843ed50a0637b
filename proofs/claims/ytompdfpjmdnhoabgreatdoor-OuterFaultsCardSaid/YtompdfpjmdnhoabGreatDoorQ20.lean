/-
  Lemmas on the way, for every input that they name: McF, McG, McI, McJ.
-/
import Derived.Deep.AppendLies
import Derived.Test.YtompdfpjmdnhoabGreatDoorQ11
import Derived.Test.YtompdfpjmdnhoabGreatDoorQ18
import Derived.Test.YtompdfpjmdnhoabGreatDoorQ19
set_option linter.unusedVariables false
set_option linter.unusedSimpArgs false
set_option linter.deprecated false
namespace Go.Proofs.YtompdfpjmdnhoabGreatDoor.Mc
open Go.RowKit Go.Proofs.YtompdfpjmdnhoabGreatDoor.Rs Go.Proofs.YtompdfpjmdnhoabGreatDoor.Ft
def Acts (w : World) (B m : Nat) (sv bv mv : Value) (s : S) (r : Rslt) (e : Ending) (w' : World) : Prop :=
  match r with
  | .ok s' => e = .returned .nilIface ∧ ∃ t', Goes w B m sv bv mv s false s' t' w'
  | .bad c thr => ∃ v ip ws, e = .returned v ∧ ErrIs w' c ip ws v ∧ ∃ s' : S, s'.mem = s.mem ∧ Goes w B m sv bv mv s false s' thr w'
theorem use_mem {w : World} {B m g c i : Nat} {sv bv : Value} {s : S} {t : Bool} {n : Nat} (H : Held w B (mach m sv bv (.slice (some ⟨g, 0, none⟩) n (c + 1)) s t)) (hi : i < s.mem.length) : ∃ z, w.cell? ⟨g, i, none⟩ = some z := by
  obtain ⟨g2, c2, hv, _, _, _, hcell, _⟩ := (m_mem H).form (by omega)
  injection hv with h1
  injection h1 with h1
  injection h1 with h1
  subst h1
  exact ⟨_, (hcell i (by omega)).trans (ints_get _ _ hi)⟩
theorem use_memf {w : World} {B m g c i : Nat} {sv bv : Value} {s : S} {t : Bool} {n : Nat} (H : Held w B (mach m sv bv (.slice (some ⟨g, 0, none⟩) n (c + 1)) s t)) (hi : i < s.mem.length) : w.frozen? ⟨g, i, none⟩ = false := by
  obtain ⟨g2, c2, hv, _, _, _, _, hf⟩ := (m_mem H).form (by omega)
  injection hv with h1
  injection h1 with h1
  injection h1 with h1
  subst h1
  exact hf i
set_option maxHeartbeats 1000000 in
set_option maxRecDepth 100000 in
theorem backs40 (B m : Nat) (sv bv mv : Value) (s : S) (t : Bool) (w : World) (H : Held w B (mach m sv bv mv s t)) (hB : B ≤ w.heap.size) (hs : 2 ≤ s.back.length) (hb2 : s.back.length ≤ 100) : Calls Tryz.prog 102 #[.pointer (some ⟨m, 0, none⟩), .int .i64 40] w (fun e w' => e = .returned (.tuple #[]) ∧ Goes w B m sv bv mv s t (backs s 40) t w') := by
  obtain ⟨g, c, rfl, hc, hb, hg, hcell, hfz⟩ := (m_back H).form (by omega)
  have k := m_blk H
  have c3 : w.cell? ⟨m, 3, none⟩ = some (.slice (some ⟨g, 0, none⟩) s.back.length (c + 1)) := k.cell 3
  have f3 := k.frozen 3
  obtain ⟨n, hn⟩ : ∃ n : Nat, s.back.length = n + 2 := ⟨s.back.length - 2, by omega⟩
  have N1 := Turns.turn_at [.st m 70 (mCells sv (.slice (some ⟨g, 0, none⟩) s.back.length (c + 1)) mv s t), .row 3 1 sv s.stack.length (ints s.stack)] [.row 3 1 mv s.mem.length (ints s.mem)] H.drew ((m_back H.drew).take (k := n) (by omega)) (fun k hk => hk)
  have N2 := (Turns.refl H).drew.trans (N1.trans (Turns.set N1.held 3 (.slice (some ⟨g, 0, none⟩) n (c + 1))))
  rw [Nat.mul_one, ints_take] at N2
  have hbk : s.back.take n = (backs s 40).back := by show _ = s.back.take (s.back.length - 2); rw [hn]; rfl
  have hnl : n = (s.back.take n).length := by simp; omega
  have hq : (backs s 40).back.length = n := by rw [← hbk]; exact hnl.symm
  have G : Goes w B m sv (.slice (some ⟨g, 0, none⟩) s.back.length (c + 1)) mv s t (backs s 40) t (w.drew.setCell ⟨m, 3, none⟩ (.slice (some ⟨g, 0, none⟩) n (c + 1))) := by
    refine ⟨sv, .slice (some ⟨g, 0, none⟩) n (c + 1), ?_⟩
    rw [hbk] at N2
    have : mach m sv (.slice (some ⟨g, 0, none⟩) n (c + 1)) mv (backs s 40) t = [.st m 70 (mCells sv (.slice (some ⟨g, 0, none⟩) n (c + 1)) mv s t), .row 3 1 sv s.stack.length (ints s.stack), .row 3 1 (.slice (some ⟨g, 0, none⟩) n (c + 1)) n (ints (backs s 40).back), .row 3 1 mv s.mem.length (ints s.mem)] := by
      unfold mach
      rw [hq]
      rfl
    rw [this]
    exact N2
  have HG := Lib.hid G
  rw [hn] at c3 hc
  have h1 : ((n + 2 : Nat) : Int) - 2 = (n : Int) := by omega
  have h3 : IntKind.i64.wrap (n : Int) = (n : Int) := IntWalk.i64_in _ (by omega)
  have h4 : (0 : Int) ≤ (n : Int) := by omega
  have h5 : (n : Int) ≤ ((c + 1 : Nat) : Int) := by omega
  clear k hcell hfz N1 N2 hbk hnl hq G hb hg hb2 hs hn
  go_enter Tryz.func102, Tryz.ntmps102
  go_wp2_with fail
  go_region_with (fail)
  all_goals
    go_wp2_with fail
    go_end0
    exact ⟨rfl, HG.out⟩
theorem of_eq_wrap {w w2 : World} {B m g i : Nat} {sv bv mv : Value} {s : S} {r : Rslt} {e : Ending} {x y : Int} (h : x = y) (H : Acts w B m sv bv mv s r e (w2.setCell ⟨g, i, none⟩ (.int .i64 x))) : Acts w B m sv bv mv s r e (w2.setCell ⟨g, i, none⟩ (.int .i64 y)) := h ▸ H
set_option maxHeartbeats 1000000 in
set_option maxRecDepth 100000 in
theorem memory_bad (B m : Nat) (sv bv mv : Value) (s : S) (w : World) (H : Held w B (mach m sv bv mv s false)) (hB : B ≤ w.heap.size) (c : Int) (ha : load s (top s.stack) = none) (hs : 1 ≤ s.stack.length) (hs2 : s.stack.length ≤ 100) (hm : s.mem.length ≤ 5000) : Calls Tryz.prog 101 #[.pointer (some ⟨m, 0, none⟩), .int .i64 c] w (Acts w B m sv bv mv s (.bad (-9) false)) := by
  have ha2 : top s.stack < 0 ∨ (s.mem.length : Int) ≤ top s.stack := by
    unfold load at ha
    split at ha
    · cases ha
    · omega
  have Ha := Lib.hid ha2
  clear ha ha2
  go_enter Tryz.func101, Tryz.ntmps101
  go_wp2_with fail
  refine (pop_any B m _ _ mv s false _ H (ne_of_pos (by omega)) (by omega)).mono ?_
  rintro e w1 ⟨rfl, sv1, bv1, N1⟩
  have K1 := Lib.hid N1.held
  have G1 := Lib.hid (⟨sv1, bv1, N1⟩ : Goes w B m sv bv mv s false (pop s) _ w1)
  have M1 := Lib.hid N1
  have hb1 : B ≤ w1.heap.size := Nat.le_trans hB N1.touch.size
  clear N1
  go_wp2_with fail
  refine (load_no B m _ _ mv (pop s) false _ K1.out _ Ha.out hm).mono ?_
  rintro e w2 ⟨v, ip, ws, rfl, h1, h2⟩
  have Hv : Hid (Acts w B m sv bv mv s (.bad (-9) false) (.returned v) w2) := ⟨v, ip, ws, rfl, h1, pop s, rfl, Goes.of_below G1.out h2 (Nat.le_refl _)⟩
  obtain ⟨T, p, rfl⟩ := h1.form
  clear h1 h2
  go_wp2_with fail
  go_ret
  exact Hv.out
set_option maxHeartbeats 1000000 in
set_option maxRecDepth 100000 in
theorem memory30 (B m : Nat) (sv bv mv : Value) (s : S) (w : World) (H : Held w B (mach m sv bv mv s false)) (hB : B ≤ w.heap.size) (i : Nat) (ha : top s.stack = i) (hi : i < s.mem.length) (hs : 1 ≤ s.stack.length) (hs2 : s.stack.length ≤ 100) (hm : s.mem.length ≤ 5000) : Calls Tryz.prog 101 #[.pointer (some ⟨m, 0, none⟩), .int .i64 30] w (Acts w B m sv bv mv s (.ok (push (pop s) [s.mem.getD i 0]))) := by
  have p1 : s.stack.dropLast.length = s.stack.length - 1 := List.length_dropLast
  have P1 := Lib.hid p1
  have Ha := Lib.hid ha
  clear p1 ha
  go_enter Tryz.func101, Tryz.ntmps101
  go_wp2_with fail
  refine (pop_any B m _ _ mv s false _ H (ne_of_pos (by omega)) (by omega)).mono ?_
  rintro e w1 ⟨rfl, sv1, bv1, N1⟩
  have K1 := Lib.hid N1.held
  have G1 := Lib.hid (⟨sv1, bv1, N1⟩ : Goes w B m sv bv mv s false (pop s) _ w1)
  have M1 := Lib.hid N1
  have hb1 : B ≤ w1.heap.size := Nat.le_trans hB N1.touch.size
  clear N1
  rw [Ha.out]
  go_wp2_with fail
  refine (load_yes B m _ _ mv (pop s) false _ K1.out i hi hm).mono ?_
  rintro e w2 ⟨rfl, rfl⟩
  go_wp2_with fail
  refine (push_lit B m _ _ mv (pop s) false _ K1.out hb1 [s.mem.getD i 0] _ rfl _ _ rfl (by show s.stack.dropLast.length + 1 ≤ 1000; rw [P1.out]; omega)).mono ?_
  rintro e w2 ⟨rfl, sv2, bv2, N2⟩
  have K2 := Lib.hid N2.held
  have G2 := Lib.hid (Goes.then_ ⟨sv2, bv2, N2⟩ M1.out : Goes w B m sv bv mv s false (push (pop s) [s.mem.getD i 0]) _ w2)
  have M2 := Lib.hid (M1.out.trans N2)
  have hb2 : B ≤ w2.heap.size := Nat.le_trans hb1 N2.touch.size
  clear N2
  go_wp2_with fail
  go_ret
  exact ⟨rfl, false, G2.out⟩
set_option maxHeartbeats 1000000 in
set_option maxRecDepth 100000 in
theorem memory31 (B m : Nat) (sv bv mv : Value) (s : S) (w : World) (H : Held w B (mach m sv bv mv s false)) (hB : B ≤ w.heap.size) (i : Nat) (ha : top s.stack = i) (hi : i < s.mem.length) (hs : 2 ≤ s.stack.length) (hs2 : s.stack.length ≤ 100) (hm : s.mem.length ≤ 5000) : Calls Tryz.prog 101 #[.pointer (some ⟨m, 0, none⟩), .int .i64 31] w (Acts w B m sv bv mv s (.ok { pop (pop s) with mem := s.mem.set i (wr (0 + top (pop s).stack)) })) := by
  have p1 : s.stack.dropLast.length = s.stack.length - 1 := List.length_dropLast
  have P1 := Lib.hid p1
  have Ha := Lib.hid ha
  obtain ⟨g, c, rfl, hc, hb, hg, hcell, hfz⟩ := (m_mem H).form (by omega)
  clear p1 ha hcell hfz hb hg hc
  go_enter Tryz.func101, Tryz.ntmps101
  go_wp2_with fail
  refine (pop_any B m _ _ _ s false _ H (ne_of_pos (by omega)) (by omega)).mono ?_
  rintro e w1 ⟨rfl, sv1, bv1, N1⟩
  have K1 := Lib.hid N1.held
  have G1 := Lib.hid (⟨sv1, bv1, N1⟩ : Goes w B m sv bv _ s false (pop s) _ w1)
  have M1 := Lib.hid N1
  have hb1 : B ≤ w1.heap.size := Nat.le_trans hB N1.touch.size
  clear N1
  rw [Ha.out]
  go_wp2_with fail
  refine (load_yes B m _ _ _ (pop s) false _ K1.out i hi hm).mono ?_
  rintro e w2 ⟨rfl, rfl⟩
  rw [show (pop s).mem.getD i 0 = s.mem.getD i 0 from rfl]
  have k1 := m_blk K1.out
  have c4 : w1.cell? ⟨m, 4, none⟩ = some (.slice (some ⟨g, 0, none⟩) s.mem.length (c + 1)) := k1.cell 4
  have HP := Lib.hid (pop_any B m _ _ _ (pop s) false w1.drew K1.out.drew (ne_of_pos (by show 0 < s.stack.dropLast.length; rw [P1.out]; omega)) (by show s.stack.dropLast.length ≤ 1000; rw [P1.out]; omega))
  have hfin : ∀ w2 sv2 bv2, Turns w1.drew B (mach m sv1 bv1 (.slice (some ⟨g, 0, none⟩) s.mem.length (c + 1)) (pop s) false) (mach m sv2 bv2 (.slice (some ⟨g, 0, none⟩) s.mem.length (c + 1)) (pop (pop s)) false) w2 → Acts w B m sv bv (.slice (some ⟨g, 0, none⟩) s.mem.length (c + 1)) s (.ok { pop (pop s) with mem := s.mem.set i (wr (0 + top (pop s).stack)) }) (.returned .nilIface) (w2.setCell ⟨g, i, none⟩ (.int .i64 (wr (0 + top (pop s).stack)))) := by
    intro w2 sv2 bv2 N
    refine ⟨rfl, false, sv2, bv2, ?_⟩
    have N0 := (M1.out.drew.trans N).trans (Turns.store_at [.st m 70 (mCells sv2 bv2 (.slice (some ⟨g, 0, none⟩) s.mem.length (c + 1)) (pop (pop s)) false), .row 3 1 sv2 (pop (pop s)).stack.length (ints (pop (pop s)).stack), .row 3 1 bv2 s.back.length (ints s.back)] [] (i := i) (u := .int .i64 (wr (0 + top (pop s).stack))) N.held (by simpa using hi))
    have e1 : (ints s.mem).set i (.int .i64 (wr (0 + top (pop s).stack))) = ints (s.mem.set i (wr (0 + top (pop s).stack))) := by simp [ints, List.map_set]
    have e2 : s.mem.length = (s.mem.set i (wr (0 + top (pop s).stack))).length := by simp
    have e3 : mach m sv2 bv2 (.slice (some ⟨g, 0, none⟩) s.mem.length (c + 1)) { pop (pop s) with mem := s.mem.set i (wr (0 + top (pop s).stack)) } false = [.st m 70 (mCells sv2 bv2 (.slice (some ⟨g, 0, none⟩) s.mem.length (c + 1)) (pop (pop s)) false), .row 3 1 sv2 (pop (pop s)).stack.length (ints (pop (pop s)).stack), .row 3 1 bv2 s.back.length (ints s.back), .row 3 1 (.slice (some ⟨g, 0, none⟩) s.mem.length (c + 1)) s.mem.length ((ints s.mem).set i (.int .i64 (wr (0 + top (pop s).stack))))] := by
      rw [e1]
      conv => rhs; rw [e2]
      unfold mach
      simp only [List.length_set]
      rfl
    rw [e3]
    exact N0
  have HF := Lib.hid hfin
  have hi1 : (i : Int) < (s.mem.length : Int) := by omega
  have hi0 : (0 : Int) ≤ (i : Int) := by omega
  clear k1 hfin
  generalize top (pop s).stack = y at *
  generalize s.mem.getD i 0 = v at *
  go_wp2_with fail
  go_region_with ((go_at_call 98; refine HP.out.mono ?_; rintro e w2 ⟨rfl, sv2, bv2, N⟩; have k2 := m_blk N.held; have d4 : w2.cell? ⟨m, 4, none⟩ = some (.slice (some ⟨g, 0, none⟩) s.mem.length (c + 1)) := k2.cell 4; have hz : ∃ z, w2.cell? ⟨g, i, none⟩ = some z := use_mem N.held hi; obtain ⟨z, hz⟩ := hz; have fz : w2.frozen? ⟨g, i, none⟩ = false := use_memf N.held hi; have HN := Lib.hid N; clear N k2))
  all_goals
    go_wp2_with fail
    go_ret
    have := HF.out _ _ _ HN.out
    refine of_eq_wrap (by unfold wr; rw [Int.zero_add, IntWalk.i64_left]) this
set_option maxHeartbeats 1000000 in
set_option maxRecDepth 100000 in
theorem memory32 (B m : Nat) (sv bv mv : Value) (s : S) (w : World) (H : Held w B (mach m sv bv mv s false)) (hB : B ≤ w.heap.size) (i : Nat) (ha : top s.stack = i) (hi : i < s.mem.length) (hs : 2 ≤ s.stack.length) (hs2 : s.stack.length ≤ 100) (hm : s.mem.length ≤ 5000) : Calls Tryz.prog 101 #[.pointer (some ⟨m, 0, none⟩), .int .i64 32] w (Acts w B m sv bv mv s (.ok { pop (pop s) with mem := s.mem.set i (wr (s.mem.getD i 0 + top (pop s).stack)) })) := by
  have p1 : s.stack.dropLast.length = s.stack.length - 1 := List.length_dropLast
  have P1 := Lib.hid p1
  have Ha := Lib.hid ha
  obtain ⟨g, c, rfl, hc, hb, hg, hcell, hfz⟩ := (m_mem H).form (by omega)
  clear p1 ha hcell hfz hb hg hc
  go_enter Tryz.func101, Tryz.ntmps101
  go_wp2_with fail
  refine (pop_any B m _ _ _ s false _ H (ne_of_pos (by omega)) (by omega)).mono ?_
  rintro e w1 ⟨rfl, sv1, bv1, N1⟩
  have K1 := Lib.hid N1.held
  have G1 := Lib.hid (⟨sv1, bv1, N1⟩ : Goes w B m sv bv _ s false (pop s) _ w1)
  have M1 := Lib.hid N1
  have hb1 : B ≤ w1.heap.size := Nat.le_trans hB N1.touch.size
  clear N1
  rw [Ha.out]
  go_wp2_with fail
  refine (load_yes B m _ _ _ (pop s) false _ K1.out i hi hm).mono ?_
  rintro e w2 ⟨rfl, rfl⟩
  rw [show (pop s).mem.getD i 0 = s.mem.getD i 0 from rfl]
  have k1 := m_blk K1.out
  have c4 : w1.cell? ⟨m, 4, none⟩ = some (.slice (some ⟨g, 0, none⟩) s.mem.length (c + 1)) := k1.cell 4
  have HP := Lib.hid (pop_any B m _ _ _ (pop s) false w1.drew K1.out.drew (ne_of_pos (by show 0 < s.stack.dropLast.length; rw [P1.out]; omega)) (by show s.stack.dropLast.length ≤ 1000; rw [P1.out]; omega))
  have hfin : ∀ w2 sv2 bv2, Turns w1.drew B (mach m sv1 bv1 (.slice (some ⟨g, 0, none⟩) s.mem.length (c + 1)) (pop s) false) (mach m sv2 bv2 (.slice (some ⟨g, 0, none⟩) s.mem.length (c + 1)) (pop (pop s)) false) w2 → Acts w B m sv bv (.slice (some ⟨g, 0, none⟩) s.mem.length (c + 1)) s (.ok { pop (pop s) with mem := s.mem.set i (wr (s.mem.getD i 0 + top (pop s).stack)) }) (.returned .nilIface) (w2.setCell ⟨g, i, none⟩ (.int .i64 (wr (s.mem.getD i 0 + top (pop s).stack)))) := by
    intro w2 sv2 bv2 N
    refine ⟨rfl, false, sv2, bv2, ?_⟩
    have N0 := (M1.out.drew.trans N).trans (Turns.store_at [.st m 70 (mCells sv2 bv2 (.slice (some ⟨g, 0, none⟩) s.mem.length (c + 1)) (pop (pop s)) false), .row 3 1 sv2 (pop (pop s)).stack.length (ints (pop (pop s)).stack), .row 3 1 bv2 s.back.length (ints s.back)] [] (i := i) (u := .int .i64 (wr (s.mem.getD i 0 + top (pop s).stack))) N.held (by simpa using hi))
    have e1 : (ints s.mem).set i (.int .i64 (wr (s.mem.getD i 0 + top (pop s).stack))) = ints (s.mem.set i (wr (s.mem.getD i 0 + top (pop s).stack))) := by simp [ints, List.map_set]
    have e2 : s.mem.length = (s.mem.set i (wr (s.mem.getD i 0 + top (pop s).stack))).length := by simp
    have e3 : mach m sv2 bv2 (.slice (some ⟨g, 0, none⟩) s.mem.length (c + 1)) { pop (pop s) with mem := s.mem.set i (wr (s.mem.getD i 0 + top (pop s).stack)) } false = [.st m 70 (mCells sv2 bv2 (.slice (some ⟨g, 0, none⟩) s.mem.length (c + 1)) (pop (pop s)) false), .row 3 1 sv2 (pop (pop s)).stack.length (ints (pop (pop s)).stack), .row 3 1 bv2 s.back.length (ints s.back), .row 3 1 (.slice (some ⟨g, 0, none⟩) s.mem.length (c + 1)) s.mem.length ((ints s.mem).set i (.int .i64 (wr (s.mem.getD i 0 + top (pop s).stack))))] := by
      rw [e1]
      conv => rhs; rw [e2]
      unfold mach
      simp only [List.length_set]
      rfl
    rw [e3]
    exact N0
  have HF := Lib.hid hfin
  have hi1 : (i : Int) < (s.mem.length : Int) := by omega
  have hi0 : (0 : Int) ≤ (i : Int) := by omega
  clear k1 hfin
  generalize top (pop s).stack = y at *
  generalize s.mem.getD i 0 = v at *
  go_wp2_with fail
  go_region_with ((go_at_call 98; refine HP.out.mono ?_; rintro e w2 ⟨rfl, sv2, bv2, N⟩; have k2 := m_blk N.held; have d4 : w2.cell? ⟨m, 4, none⟩ = some (.slice (some ⟨g, 0, none⟩) s.mem.length (c + 1)) := k2.cell 4; have hz : ∃ z, w2.cell? ⟨g, i, none⟩ = some z := use_mem N.held hi; obtain ⟨z, hz⟩ := hz; have fz : w2.frozen? ⟨g, i, none⟩ = false := use_memf N.held hi; have HN := Lib.hid N; clear N k2))
  all_goals
    go_wp2_with fail
    go_ret
    have := HF.out _ _ _ HN.out
    refine of_eq_wrap (by unfold wr; rw [IntWalk.i64_left]) this
end Go.Proofs.YtompdfpjmdnhoabGreatDoor.Mc
namespace Go.Proofs.YtompdfpjmdnhoabGreatDoor.Mc
open Go.RowKit Go.Proofs.YtompdfpjmdnhoabGreatDoor.Rs Go.Proofs.YtompdfpjmdnhoabGreatDoor.Ft
set_option maxHeartbeats 1000000 in
set_option maxRecDepth 100000 in
theorem loop37_end (B m : Nat) (sv bv mv : Value) (s : S) (t : Bool) (w : World) (H : Held w B (mach m sv bv mv s t)) (hB : B ≤ w.heap.size) (arg : Int) (hs : 2 ≤ s.back.length) (hb2 : s.back.length ≤ 100) (he : wrap64 (top s.back + 1) = top (popBack s).back) : Calls Tryz.prog 103 #[.pointer (some ⟨m, 0, none⟩), .int .i64 37, .int .i64 arg] w (fun e w' => e = .returned (.tuple #[]) ∧ Goes w B m sv bv mv s t (loop s 37 arg) t w') := by
  have p1 : s.back.dropLast.length = s.back.length - 1 := List.length_dropLast
  have p2 : s.back.dropLast.dropLast.length = s.back.length - 2 := by simp [List.length_dropLast]; omega
  have P1 := Lib.hid p1
  have P2 := Lib.hid p2
  clear p1 p2
  have hfin : loop s 37 arg = popBack (popBack s) := by unfold loop; rw [if_neg (by decide)]; exact if_pos he
  rw [hfin]
  obtain ⟨x, hx⟩ : ∃ x, top s.back = x := ⟨_, rfl⟩
  obtain ⟨l, hl⟩ : ∃ l, top (popBack s).back = l := ⟨_, rfl⟩
  rw [hx, hl] at he
  have he2 : (wrap64 (x + 1) == l) = true := beq_iff_eq.2 he
  have Hx := Lib.hid hx
  have Hl := Lib.hid hl
  clear he hfin hx hl
  go_enter Tryz.func103, Tryz.ntmps103
  go_wp2_with fail
  refine (popBack_any B m _ _ mv s t _ H (ne_of_pos (by omega)) (by omega)).mono ?_
  rintro e w1 ⟨rfl, sv1, bv1, N1⟩
  have K1 := Lib.hid N1.held
  have G1 := Lib.hid (⟨sv1, bv1, N1⟩ : Goes w B m sv bv mv s t (popBack s) _ w1)
  have M1 := Lib.hid N1
  have hb1 : B ≤ w1.heap.size := Nat.le_trans hB N1.touch.size
  clear N1
  rw [Hx.out]
  go_wp2_with fail
  refine (popBack_any B m _ _ mv (popBack s) t _ K1.out (ne_of_pos (by show 0 < s.back.dropLast.length; rw [P1.out]; omega)) (by show s.back.dropLast.length ≤ 1000; rw [P1.out]; omega)).mono ?_
  rintro e w2 ⟨rfl, sv2, bv2, N2⟩
  have K2 := Lib.hid N2.held
  have G2 := Lib.hid (Goes.then_ ⟨sv2, bv2, N2⟩ M1.out : Goes w B m sv bv mv s t (popBack (popBack s)) _ w2)
  have M2 := Lib.hid (M1.out.trans N2)
  have hb2 : B ≤ w2.heap.size := Nat.le_trans hb1 N2.touch.size
  clear N2
  rw [Hl.out]
  go_wp2_with fail
  go_end0
  exact ⟨rfl, G2.out⟩
set_option maxHeartbeats 1000000 in
set_option maxRecDepth 100000 in
theorem loop37_on (B m : Nat) (sv bv mv : Value) (s : S) (t : Bool) (w : World) (H : Held w B (mach m sv bv mv s t)) (hB : B ≤ w.heap.size) (arg : Int) (hs : 2 ≤ s.back.length) (hb2 : s.back.length ≤ 100) (he : wrap64 (top s.back + 1) ≠ top (popBack s).back) : Calls Tryz.prog 103 #[.pointer (some ⟨m, 0, none⟩), .int .i64 37, .int .i64 arg] w (fun e w' => e = .returned (.tuple #[]) ∧ Goes w B m sv bv mv s t (loop s 37 arg) t w') := by
  have p1 : s.back.dropLast.length = s.back.length - 1 := List.length_dropLast
  have p2 : s.back.dropLast.dropLast.length = s.back.length - 2 := by simp [List.length_dropLast]; omega
  have P1 := Lib.hid p1
  have P2 := Lib.hid p2
  clear p1 p2
  obtain ⟨x, hx⟩ : ∃ x, top s.back = x := ⟨_, rfl⟩
  obtain ⟨l, hl⟩ : ∃ l, top (popBack s).back = l := ⟨_, rfl⟩
  have hfin : loop s 37 arg = { lay (popBack (popBack s)) [l, wrap64 (x + 1)] with ip := arg } := by unfold loop; rw [if_neg (by decide), hx, hl]; rw [hx, hl] at he; exact if_neg he
  rw [hfin]
  rw [hx, hl] at he
  have he2 : (wrap64 (x + 1) == l) = false := beq_eq_false_iff_ne.2 he
  have Hx := Lib.hid hx
  have Hl := Lib.hid hl
  clear he hfin hx hl
  go_enter Tryz.func103, Tryz.ntmps103
  go_wp2_with fail
  refine (popBack_any B m _ _ mv s t _ H (ne_of_pos (by omega)) (by omega)).mono ?_
  rintro e w1 ⟨rfl, sv1, bv1, N1⟩
  have K1 := Lib.hid N1.held
  have G1 := Lib.hid (⟨sv1, bv1, N1⟩ : Goes w B m sv bv mv s t (popBack s) _ w1)
  have M1 := Lib.hid N1
  have hb1 : B ≤ w1.heap.size := Nat.le_trans hB N1.touch.size
  clear N1
  rw [Hx.out]
  go_wp2_with fail
  refine (popBack_any B m _ _ mv (popBack s) t _ K1.out (ne_of_pos (by show 0 < s.back.dropLast.length; rw [P1.out]; omega)) (by show s.back.dropLast.length ≤ 1000; rw [P1.out]; omega)).mono ?_
  rintro e w2 ⟨rfl, sv2, bv2, N2⟩
  have K2 := Lib.hid N2.held
  have G2 := Lib.hid (Goes.then_ ⟨sv2, bv2, N2⟩ M1.out : Goes w B m sv bv mv s t (popBack (popBack s)) _ w2)
  have M2 := Lib.hid (M1.out.trans N2)
  have hb2 : B ≤ w2.heap.size := Nat.le_trans hb1 N2.touch.size
  clear N2
  rw [Hl.out]
  go_wp2_with fail
  refine (back_lit B m _ _ mv (popBack (popBack s)) t _ K2.out hb2 [l, wrap64 (x + 1)] _ rfl _ _ rfl (by show s.back.dropLast.dropLast.length + 2 ≤ 1000; rw [P2.out]; omega)).mono ?_
  rintro e w3 ⟨rfl, sv3, bv3, N3⟩
  have K3 := Lib.hid N3.held
  have G3 := Lib.hid (Goes.then_ ⟨sv3, bv3, N3⟩ M2.out : Goes w B m sv bv mv s t (lay (popBack (popBack s)) [l, wrap64 (x + 1)]) _ w3)
  have M3 := Lib.hid (M2.out.trans N3)
  have hb3 : B ≤ w3.heap.size := Nat.le_trans hb2 N3.touch.size
  clear N3
  have k3 := m_blk K3.out
  have d0 : w3.cell? ⟨m, 0, none⟩ = some (.int .i64 s.ip) := k3.cell 0
  have f0 := k3.frozen 0
  have G := Lib.hid (Goes.ip G3.out arg)
  clear k3
  go_wp2_with fail
  go_end0
  exact ⟨rfl, G.out⟩
set_option maxHeartbeats 1000000 in
set_option maxRecDepth 100000 in
theorem loop38_end (B m : Nat) (sv bv mv : Value) (s : S) (t : Bool) (w : World) (H : Held w B (mach m sv bv mv s t)) (hB : B ≤ w.heap.size) (arg : Int) (hs : 2 ≤ s.back.length) (hb2 : s.back.length ≤ 100) (ht : 1 ≤ s.stack.length) (ht2 : s.stack.length ≤ 100) (he : crosses (wr (top s.back - top (popBack s).back)) (top s.stack) = true) : Calls Tryz.prog 103 #[.pointer (some ⟨m, 0, none⟩), .int .i64 38, .int .i64 arg] w (fun e w' => e = .returned (.tuple #[]) ∧ Goes w B m sv bv mv s t (loop s 38 arg) t w') := by
  have p1 : s.back.dropLast.length = s.back.length - 1 := List.length_dropLast
  have p2 : s.back.dropLast.dropLast.length = s.back.length - 2 := by simp [List.length_dropLast]; omega
  have P1 := Lib.hid p1
  have P2 := Lib.hid p2
  clear p1 p2
  obtain ⟨x, hx⟩ : ∃ x, top s.back = x := ⟨_, rfl⟩
  obtain ⟨l, hl⟩ : ∃ l, top (popBack s).back = l := ⟨_, rfl⟩
  obtain ⟨n, hn⟩ : ∃ n, top s.stack = n := ⟨_, rfl⟩
  have hfin : loop s 38 arg = pop (popBack (popBack s)) := by unfold loop; rw [if_pos rfl]; exact if_pos he
  rw [hfin]
  rw [hx, hl, hn] at he
  have Hc : Hid (crosses (wrap64 (x - l)) n = true) := he
  have Hx := Lib.hid hx
  have Hl := Lib.hid hl
  have Hn := Lib.hid hn
  clear he hfin hx hl hn
  go_enter Tryz.func103, Tryz.ntmps103
  go_wp2_with fail
  refine (popBack_any B m _ _ mv s t _ H (ne_of_pos (by omega)) (by omega)).mono ?_
  rintro e w1 ⟨rfl, sv1, bv1, N1⟩
  have K1 := Lib.hid N1.held
  have G1 := Lib.hid (⟨sv1, bv1, N1⟩ : Goes w B m sv bv mv s t (popBack s) _ w1)
  have M1 := Lib.hid N1
  have hb1 : B ≤ w1.heap.size := Nat.le_trans hB N1.touch.size
  clear N1
  rw [Hx.out]
  go_wp2_with fail
  refine (popBack_any B m _ _ mv (popBack s) t _ K1.out (ne_of_pos (by show 0 < s.back.dropLast.length; rw [P1.out]; omega)) (by show s.back.dropLast.length ≤ 1000; rw [P1.out]; omega)).mono ?_
  rintro e w2 ⟨rfl, sv2, bv2, N2⟩
  have K2 := Lib.hid N2.held
  have G2 := Lib.hid (Goes.then_ ⟨sv2, bv2, N2⟩ M1.out : Goes w B m sv bv mv s t (popBack (popBack s)) _ w2)
  have M2 := Lib.hid (M1.out.trans N2)
  have hb2 : B ≤ w2.heap.size := Nat.le_trans hb1 N2.touch.size
  clear N2
  rw [Hl.out]
  go_wp2_with fail
  refine (pop_any B m _ _ mv (popBack (popBack s)) t _ K2.out (ne_of_pos (by show 0 < s.stack.length; omega)) (by show s.stack.length ≤ 1000; omega)).mono ?_
  rintro e w3 ⟨rfl, sv3, bv3, N3⟩
  have K3 := Lib.hid N3.held
  have G3 := Lib.hid (Goes.then_ ⟨sv3, bv3, N3⟩ M2.out : Goes w B m sv bv mv s t (pop (popBack (popBack s))) _ w3)
  have M3 := Lib.hid (M2.out.trans N3)
  have hb3 : B ≤ w3.heap.size := Nat.le_trans hb2 N3.touch.size
  clear N3
  rw [show top (popBack (popBack s)).stack = n from Hn.out]
  go_wp2_with fail
  refine (crosses_any (wrap64 (x - l)) n _).mono ?_
  rintro e w4 ⟨rfl, rfl⟩
  rw [Hc.out]
  go_wp2_with fail
  go_end0
  exact ⟨rfl, G3.out⟩
set_option maxHeartbeats 1000000 in
set_option maxRecDepth 100000 in
theorem loop38_on (B m : Nat) (sv bv mv : Value) (s : S) (t : Bool) (w : World) (H : Held w B (mach m sv bv mv s t)) (hB : B ≤ w.heap.size) (arg : Int) (hs : 2 ≤ s.back.length) (hb2 : s.back.length ≤ 100) (ht : 1 ≤ s.stack.length) (ht2 : s.stack.length ≤ 100) (he : crosses (wr (top s.back - top (popBack s).back)) (top s.stack) = false) : Calls Tryz.prog 103 #[.pointer (some ⟨m, 0, none⟩), .int .i64 38, .int .i64 arg] w (fun e w' => e = .returned (.tuple #[]) ∧ Goes w B m sv bv mv s t (loop s 38 arg) t w') := by
  have p1 : s.back.dropLast.length = s.back.length - 1 := List.length_dropLast
  have p2 : s.back.dropLast.dropLast.length = s.back.length - 2 := by simp [List.length_dropLast]; omega
  have P1 := Lib.hid p1
  have P2 := Lib.hid p2
  clear p1 p2
  obtain ⟨x, hx⟩ : ∃ x, top s.back = x := ⟨_, rfl⟩
  obtain ⟨l, hl⟩ : ∃ l, top (popBack s).back = l := ⟨_, rfl⟩
  obtain ⟨n, hn⟩ : ∃ n, top s.stack = n := ⟨_, rfl⟩
  have hfin : loop s 38 arg = { lay (pop (popBack (popBack s))) [l, wrap64 (x + n)] with ip := arg } := by unfold loop; rw [if_pos rfl]; rw [hx, hl, hn] at he ⊢; exact if_neg (by rw [he]; decide)
  rw [hfin]
  rw [hx, hl, hn] at he
  have Hc : Hid (crosses (wrap64 (x - l)) n = false) := he
  have Hx := Lib.hid hx
  have Hl := Lib.hid hl
  have Hn := Lib.hid hn
  clear he hfin hx hl hn
  go_enter Tryz.func103, Tryz.ntmps103
  go_wp2_with fail
  refine (popBack_any B m _ _ mv s t _ H (ne_of_pos (by omega)) (by omega)).mono ?_
  rintro e w1 ⟨rfl, sv1, bv1, N1⟩
  have K1 := Lib.hid N1.held
  have G1 := Lib.hid (⟨sv1, bv1, N1⟩ : Goes w B m sv bv mv s t (popBack s) _ w1)
  have M1 := Lib.hid N1
  have hb1 : B ≤ w1.heap.size := Nat.le_trans hB N1.touch.size
  clear N1
  rw [Hx.out]
  go_wp2_with fail
  refine (popBack_any B m _ _ mv (popBack s) t _ K1.out (ne_of_pos (by show 0 < s.back.dropLast.length; rw [P1.out]; omega)) (by show s.back.dropLast.length ≤ 1000; rw [P1.out]; omega)).mono ?_
  rintro e w2 ⟨rfl, sv2, bv2, N2⟩
  have K2 := Lib.hid N2.held
  have G2 := Lib.hid (Goes.then_ ⟨sv2, bv2, N2⟩ M1.out : Goes w B m sv bv mv s t (popBack (popBack s)) _ w2)
  have M2 := Lib.hid (M1.out.trans N2)
  have hb2 : B ≤ w2.heap.size := Nat.le_trans hb1 N2.touch.size
  clear N2
  rw [Hl.out]
  go_wp2_with fail
  refine (pop_any B m _ _ mv (popBack (popBack s)) t _ K2.out (ne_of_pos (by show 0 < s.stack.length; omega)) (by show s.stack.length ≤ 1000; omega)).mono ?_
  rintro e w3 ⟨rfl, sv3, bv3, N3⟩
  have K3 := Lib.hid N3.held
  have G3 := Lib.hid (Goes.then_ ⟨sv3, bv3, N3⟩ M2.out : Goes w B m sv bv mv s t (pop (popBack (popBack s))) _ w3)
  have M3 := Lib.hid (M2.out.trans N3)
  have hb3 : B ≤ w3.heap.size := Nat.le_trans hb2 N3.touch.size
  clear N3
  rw [show top (popBack (popBack s)).stack = n from Hn.out]
  go_wp2_with fail
  refine (crosses_any (wrap64 (x - l)) n _).mono ?_
  rintro e w4 ⟨rfl, rfl⟩
  rw [Hc.out]
  go_wp2_with fail
  refine (back_lit B m _ _ mv (pop (popBack (popBack s))) t _ K3.out hb3 [l, wrap64 (x + n)] _ rfl _ _ rfl (by show s.back.dropLast.dropLast.length + 2 ≤ 1000; rw [P2.out]; omega)).mono ?_
  rintro e w4 ⟨rfl, sv4, bv4, N4⟩
  have K4 := Lib.hid N4.held
  have G4 := Lib.hid (Goes.then_ ⟨sv4, bv4, N4⟩ M3.out : Goes w B m sv bv mv s t (lay (pop (popBack (popBack s))) [l, wrap64 (x + n)]) _ w4)
  have M4 := Lib.hid (M3.out.trans N4)
  have hb4 : B ≤ w4.heap.size := Nat.le_trans hb3 N4.touch.size
  clear N4
  have k3 := m_blk K4.out
  have d0 : w4.cell? ⟨m, 0, none⟩ = some (.int .i64 s.ip) := k3.cell 0
  have f0 := k3.frozen 0
  have G := Lib.hid (Goes.ip G4.out arg)
  clear k3
  go_wp2_with fail
  go_end0
  exact ⟨rfl, G.out⟩
set_option maxHeartbeats 1000000 in
set_option maxRecDepth 100000 in
theorem reckon_one (B m : Nat) (sv bv mv : Value) (s : S) (w : World) (H : Held w B (mach m sv bv mv s false)) (hB : B ≤ w.heap.size) (c v : Int) (hc : c ∈ ones) (hv : one c (top s.stack) = some v) (hs : 1 ≤ s.stack.length) (hs2 : s.stack.length ≤ 100) : Calls Tryz.prog 107 #[.pointer (some ⟨m, 0, none⟩), .int .i64 c] w (Acts w B m sv bv mv s (.ok (push (pop s) [v]))) := by
  have p1 : s.stack.dropLast.length = s.stack.length - 1 := List.length_dropLast
  have p2 : s.stack.dropLast.dropLast.length = s.stack.length - 2 := by simp [List.length_dropLast]; omega
  have P1 := Lib.hid p1
  have P2 := Lib.hid p2
  clear p1 p2
  have Hv := Lib.hid hv
  have Hc := Lib.hid hc
  clear hv hc
  go_enter Tryz.func107, Tryz.ntmps107
  go_wp2_with fail
  refine (pop_any B m _ _ mv s false _ H (ne_of_pos (by omega)) (by omega)).mono ?_
  rintro e w1 ⟨rfl, sv1, bv1, N1⟩
  have K1 := Lib.hid N1.held
  have G1 := Lib.hid (⟨sv1, bv1, N1⟩ : Goes w B m sv bv mv s false (pop s) _ w1)
  have M1 := Lib.hid N1
  have hb1 : B ≤ w1.heap.size := Nat.le_trans hB N1.touch.size
  clear N1
  go_wp2_with fail
  refine (one_any c _ Hc.out _).mono ?_
  rintro e w2 ⟨rfl, rfl⟩
  rw [Hv.out]
  go_wp2_with fail
  refine (push_lit B m _ _ mv (pop s) false _ K1.out hb1 [v] _ rfl _ _ rfl (by show s.stack.dropLast.length + 1 ≤ 1000; rw [P1.out]; omega)).mono ?_
  rintro e w2 ⟨rfl, sv2, bv2, N2⟩
  have K2 := Lib.hid N2.held
  have G2 := Lib.hid (Goes.then_ ⟨sv2, bv2, N2⟩ M1.out : Goes w B m sv bv mv s false (push (pop s) [v]) _ w2)
  have M2 := Lib.hid (M1.out.trans N2)
  have hb2 : B ≤ w2.heap.size := Nat.le_trans hb1 N2.touch.size
  clear N2
  go_wp2_with fail
  go_ret
  exact ⟨rfl, false, G2.out⟩
set_option maxHeartbeats 1000000 in
set_option maxRecDepth 100000 in
theorem reckon_two (B m : Nat) (sv bv mv : Value) (s : S) (w : World) (H : Held w B (mach m sv bv mv s false)) (hB : B ≤ w.heap.size) (c v : Int) (hc : c ∈ twos) (hv : two c (top (pop s).stack) (top s.stack) = some v) (hs : 2 ≤ s.stack.length) (hs2 : s.stack.length ≤ 100) : Calls Tryz.prog 107 #[.pointer (some ⟨m, 0, none⟩), .int .i64 c] w (Acts w B m sv bv mv s (.ok (push (pop (pop s)) [v]))) := by
  have p1 : s.stack.dropLast.length = s.stack.length - 1 := List.length_dropLast
  have p2 : s.stack.dropLast.dropLast.length = s.stack.length - 2 := by simp [List.length_dropLast]; omega
  have P1 := Lib.hid p1
  have P2 := Lib.hid p2
  clear p1 p2
  have Hv := Lib.hid hv
  have Hc := Lib.hid hc
  clear hv hc
  go_enter Tryz.func107, Tryz.ntmps107
  go_wp2_with fail
  refine (pop_any B m _ _ mv s false _ H (ne_of_pos (by omega)) (by omega)).mono ?_
  rintro e w1 ⟨rfl, sv1, bv1, N1⟩
  have K1 := Lib.hid N1.held
  have G1 := Lib.hid (⟨sv1, bv1, N1⟩ : Goes w B m sv bv mv s false (pop s) _ w1)
  have M1 := Lib.hid N1
  have hb1 : B ≤ w1.heap.size := Nat.le_trans hB N1.touch.size
  clear N1
  go_wp2_with fail
  refine (one_none c _ Hc.out _).mono ?_
  rintro e w9 ⟨rfl, rfl⟩
  go_wp2_with fail
  refine (pop_any B m _ _ mv (pop s) false _ K1.out (ne_of_pos (by show 0 < s.stack.dropLast.length; rw [P1.out]; omega)) (by show s.stack.dropLast.length ≤ 1000; rw [P1.out]; omega)).mono ?_
  rintro e w2 ⟨rfl, sv2, bv2, N2⟩
  have K2 := Lib.hid N2.held
  have G2 := Lib.hid (Goes.then_ ⟨sv2, bv2, N2⟩ M1.out : Goes w B m sv bv mv s false (pop (pop s)) _ w2)
  have M2 := Lib.hid (M1.out.trans N2)
  have hb2 : B ≤ w2.heap.size := Nat.le_trans hb1 N2.touch.size
  clear N2
  go_wp2_with fail
  refine (two_any c _ _ Hc.out _).mono ?_
  rintro e w9 ⟨rfl, q, rfl⟩
  rw [Hv.out]
  go_wp2_with fail
  refine (push_lit B m _ _ mv (pop (pop s)) false (w2.drewN q) (K2.out.drewN q) hb2 [v] _ rfl _ _ rfl (by show s.stack.dropLast.dropLast.length + 1 ≤ 1000; rw [P2.out]; omega)).mono ?_
  rintro e w3 ⟨rfl, g3⟩
  have G3 := Lib.hid (Goes.from (M2.out.drewN q) g3)
  clear g3
  go_wp2_with fail
  go_ret
  exact ⟨rfl, false, G3.out⟩
set_option maxHeartbeats 1000000 in
set_option maxRecDepth 100000 in
theorem reckon_bad (B m : Nat) (sv bv mv : Value) (s : S) (w : World) (H : Held w B (mach m sv bv mv s false)) (hB : B ≤ w.heap.size) (c : Int) (hc : c ∈ twos) (hv : two c (top (pop s).stack) (top s.stack) = none) (hs : 2 ≤ s.stack.length) (hs2 : s.stack.length ≤ 100) : Calls Tryz.prog 107 #[.pointer (some ⟨m, 0, none⟩), .int .i64 c] w (Acts w B m sv bv mv s (.bad (-10) false)) := by
  have p1 : s.stack.dropLast.length = s.stack.length - 1 := List.length_dropLast
  have p2 : s.stack.dropLast.dropLast.length = s.stack.length - 2 := by simp [List.length_dropLast]; omega
  have P1 := Lib.hid p1
  have P2 := Lib.hid p2
  clear p1 p2
  have Hv := Lib.hid hv
  have Hc := Lib.hid hc
  clear hv hc
  go_enter Tryz.func107, Tryz.ntmps107
  go_wp2_with fail
  refine (pop_any B m _ _ mv s false _ H (ne_of_pos (by omega)) (by omega)).mono ?_
  rintro e w1 ⟨rfl, sv1, bv1, N1⟩
  have K1 := Lib.hid N1.held
  have G1 := Lib.hid (⟨sv1, bv1, N1⟩ : Goes w B m sv bv mv s false (pop s) _ w1)
  have M1 := Lib.hid N1
  have hb1 : B ≤ w1.heap.size := Nat.le_trans hB N1.touch.size
  clear N1
  go_wp2_with fail
  refine (one_none c _ Hc.out _).mono ?_
  rintro e w9 ⟨rfl, rfl⟩
  go_wp2_with fail
  refine (pop_any B m _ _ mv (pop s) false _ K1.out (ne_of_pos (by show 0 < s.stack.dropLast.length; rw [P1.out]; omega)) (by show s.stack.dropLast.length ≤ 1000; rw [P1.out]; omega)).mono ?_
  rintro e w2 ⟨rfl, sv2, bv2, N2⟩
  have K2 := Lib.hid N2.held
  have G2 := Lib.hid (Goes.then_ ⟨sv2, bv2, N2⟩ M1.out : Goes w B m sv bv mv s false (pop (pop s)) _ w2)
  have M2 := Lib.hid (M1.out.trans N2)
  have hb2 : B ≤ w2.heap.size := Nat.le_trans hb1 N2.touch.size
  clear N2
  go_wp2_with fail
  refine (two_any c _ _ Hc.out _).mono ?_
  rintro e w9 ⟨rfl, q, rfl⟩
  rw [Hv.out]
  go_wp2_with fail
  refine (fails_any B m _ _ mv (pop (pop s)) false (w2.drewN q) (K2.out.drewN q) (-10) (by decide)).mono ?_
  rintro e w3 ⟨v, ip, ws, rfl, h1, h2⟩
  have Hv2 : Hid (Acts w B m sv bv mv s (.bad (-10) false) (.returned v) w3) := ⟨v, ip, ws, rfl, h1, pop (pop s), rfl, Goes.of_below (Goes.drewN G2.out q) h2 (Nat.le_refl _)⟩
  obtain ⟨T, p, rfl⟩ := h1.form
  clear h1 h2
  go_wp2_with fail
  go_ret
  exact Hv2.out
end Go.Proofs.YtompdfpjmdnhoabGreatDoor.Mc
namespace Go.Proofs.YtompdfpjmdnhoabGreatDoor.Mc
open Go.RowKit Go.Proofs.YtompdfpjmdnhoabGreatDoor.Rs Go.Proofs.YtompdfpjmdnhoabGreatDoor.Ft
def byteOf (v : Int) : UInt8 := UInt8.ofNat (v.emod 256).toNat
theorem u8_of (v : Int) : IntKind.u8.wrap v = ((byteOf v).toNat : Int) := by
  have h1 : (byteOf v).toNat = (v.emod 256).toNat := by
    unfold byteOf
    rw [UInt8.toNat_ofNat']
    have : v.emod 256 < 256 := Int.emod_lt_of_pos v (by decide)
    omega
  rw [h1]
  have h2 : IntKind.u8.wrap v = v % 256 := by simp [IntKind.wrap, IntKind.signed, IntKind.bits]
  rw [h2]
  have : 0 ≤ v % 256 := Int.emod_nonneg v (by decide)
  show v % 256 = ((v % 256).toNat : Int)
  omega
theorem putV_small (v b : Int) (hb : 2 ≤ b) (hb' : b ≤ 36) (h1 : -9223372036854775808 ≤ v) (h2 : v ≤ 9223372036854775807) : (Dg.putV v b).length ≤ 65 := by
  have hl := Dg.putL_len b.toNat (by omega) 64 v.natAbs (by omega)
  unfold Dg.putV
  rw [if_neg (by omega)]
  split <;> simp <;> omega
theorem put_w (v : Int) (h1 : -9223372036854775808 ≤ v) (h2 : v ≤ 9223372036854775807) (w : World) : Calls Tryz.prog 135 #[.int .i64 v, .int .i64 10] w fun e w' => e = .returned (.string ⟨(Dg.putV v 10).toArray⟩) ∧ Below w.heap.size w w' := Dg.put_walk v 10 (by decide) (by decide) h1 h2 w
set_option maxHeartbeats 1000000 in
set_option maxRecDepth 100000 in
theorem say42_ok (B m : Nat) (sv bv mv : Value) (s : S) (w : World) (H : Held w B (mach m sv bv mv s false)) (hB : B ≤ w.heap.size) (v : Int) (τ : ByteArray) (hv : top s.stack = v) (hτ : (⟨(Dg.putV v 10).toArray⟩ ++ ⟨#[32]⟩) = τ) (hr : s.out.size + τ.size ≤ 2000) (hs : 1 ≤ s.stack.length) (hs2 : s.stack.length ≤ 100) (h1 : -9223372036854775808 ≤ v) (h2 : v ≤ 9223372036854775807) : Calls Tryz.prog 104 #[.pointer (some ⟨m, 0, none⟩), .int .i64 42] w (Acts w B m sv bv mv s (.ok { pop s with out := s.out ++ τ })) := by
  have hP := put_w v h1 h2
  have hps0 := putV_small v 10 (by decide) (by decide) h1 h2
  obtain ⟨p, hp⟩ : ∃ p : ByteArray, ⟨(Dg.putV v 10).toArray⟩ = p := ⟨_, rfl⟩
  rw [hp] at hτ
  simp only [hp] at hP
  have HP := Lib.hid hP
  have hps : p.size ≤ 65 := by rw [← hp]; show (Dg.putV v 10).toArray.size ≤ 65; simpa using hps0
  clear hP hps0 hp
  have Hx := Lib.hid hv
  have Ht := Lib.hid hτ
  clear hv hτ
  have hr2 : ¬ (2000 : Int) < (s.out.size : Int) + (τ.size : Int) := by omega
  have ht : τ.size ≤ 100 := by rw [← Ht.out]; simp [ByteArray.size_append]; show p.size + 1 ≤ 100; omega
  go_enter Tryz.func104, Tryz.ntmps104
  go_wp2_with fail
  refine (pop_any B m _ _ mv s false _ H (ne_of_pos (by omega)) (by omega)).mono ?_
  rintro e w1 ⟨rfl, sv1, bv1, N1⟩
  have K1 := Lib.hid N1.held
  have G1 := Lib.hid (⟨sv1, bv1, N1⟩ : Goes w B m sv bv mv s false (pop s) _ w1)
  have M1 := Lib.hid N1
  have hb1 : B ≤ w1.heap.size := Nat.le_trans hB N1.touch.size
  clear N1
  rw [Hx.out]
  have hrow : (w1.alloc (.cells #[.int .u8 ((byteOf v).toNat : Int)] 5)).ownsRow 0 5 1 (.slice (some ⟨w1.heap.size, 0, none⟩) [byteOf v].length 1) [byteOf v].length (Dg.bcells [byteOf v]) :=
    ⟨by simp [Dg.bcells], .inr ⟨w1.heap.size, 1, _, rfl, Nat.zero_le _, heap_alloc_new _ _, by simp, by simp [maxLen], by simp, by simp [Dg.bcells]⟩⟩
  have hcv := Dg.conv_bytes hrow
  simp only [List.length_singleton] at hcv
  have hu := u8_of v
  clear hrow
  go_wp2_with fail
  refine (HP.out _).mono ?_
  rintro e w2 ⟨rfl, hb2⟩
  have HB2 : Hid (Below w1.heap.size w1 w2) := by have h3 : Below w1.heap.size w1 (w1.alloc (.cells #[.int .u8 ((byteOf v).toNat : Int)] 5)) := (Below.refl _ _).alloc (Nat.le_refl _) _; exact h3.trans (hb2.mono (by simp))
  have k2 := m_blk (Turns.of_below K1.out HB2.out (Nat.le_refl _)).held
  have c5 : w2.cell? ⟨m, 5, none⟩ = some (.string s.out) := k2.cell 5
  have f5 := k2.frozen 5
  clear hcv hu hb2 k2
  have e42 := Ht.out
  go_wp2_with fail
  have G := Lib.hid (Goes.out (Goes.of_below G1.out HB2.out (Nat.le_refl _)) (s.out ++ τ))
  go_ret
  exact ⟨rfl, false, G.out⟩
set_option maxHeartbeats 1000000 in
set_option maxRecDepth 100000 in
theorem say42_full (B m : Nat) (sv bv mv : Value) (s : S) (w : World) (H : Held w B (mach m sv bv mv s false)) (hB : B ≤ w.heap.size) (v : Int) (τ : ByteArray) (hv : top s.stack = v) (hτ : (⟨(Dg.putV v 10).toArray⟩ ++ ⟨#[32]⟩) = τ) (hr : 2000 < s.out.size + τ.size) (ho : s.out.size ≤ 5000) (hs : 1 ≤ s.stack.length) (hs2 : s.stack.length ≤ 100) (h1 : -9223372036854775808 ≤ v) (h2 : v ≤ 9223372036854775807) : Calls Tryz.prog 104 #[.pointer (some ⟨m, 0, none⟩), .int .i64 42] w (Acts w B m sv bv mv s (.bad (-57) false)) := by
  have hP := put_w v h1 h2
  have hps0 := putV_small v 10 (by decide) (by decide) h1 h2
  obtain ⟨p, hp⟩ : ∃ p : ByteArray, ⟨(Dg.putV v 10).toArray⟩ = p := ⟨_, rfl⟩
  rw [hp] at hτ
  simp only [hp] at hP
  have HP := Lib.hid hP
  have hps : p.size ≤ 65 := by rw [← hp]; show (Dg.putV v 10).toArray.size ≤ 65; simpa using hps0
  clear hP hps0 hp
  have Hx := Lib.hid hv
  have Ht := Lib.hid hτ
  clear hv hτ
  have hr2 : (2000 : Int) < (s.out.size : Int) + (τ.size : Int) := by omega
  have ht : τ.size ≤ 100 := by rw [← Ht.out]; simp [ByteArray.size_append]; show p.size + 1 ≤ 100; omega
  go_enter Tryz.func104, Tryz.ntmps104
  go_wp2_with fail
  refine (pop_any B m _ _ mv s false _ H (ne_of_pos (by omega)) (by omega)).mono ?_
  rintro e w1 ⟨rfl, sv1, bv1, N1⟩
  have K1 := Lib.hid N1.held
  have G1 := Lib.hid (⟨sv1, bv1, N1⟩ : Goes w B m sv bv mv s false (pop s) _ w1)
  have M1 := Lib.hid N1
  have hb1 : B ≤ w1.heap.size := Nat.le_trans hB N1.touch.size
  clear N1
  rw [Hx.out]
  have hrow : (w1.alloc (.cells #[.int .u8 ((byteOf v).toNat : Int)] 5)).ownsRow 0 5 1 (.slice (some ⟨w1.heap.size, 0, none⟩) [byteOf v].length 1) [byteOf v].length (Dg.bcells [byteOf v]) :=
    ⟨by simp [Dg.bcells], .inr ⟨w1.heap.size, 1, _, rfl, Nat.zero_le _, heap_alloc_new _ _, by simp, by simp [maxLen], by simp, by simp [Dg.bcells]⟩⟩
  have hcv := Dg.conv_bytes hrow
  simp only [List.length_singleton] at hcv
  have hu := u8_of v
  clear hrow
  go_wp2_with fail
  refine (HP.out _).mono ?_
  rintro e w2 ⟨rfl, hb2⟩
  have HB2 : Hid (Below w1.heap.size w1 w2) := by have h3 : Below w1.heap.size w1 (w1.alloc (.cells #[.int .u8 ((byteOf v).toNat : Int)] 5)) := (Below.refl _ _).alloc (Nat.le_refl _) _; exact h3.trans (hb2.mono (by simp))
  have k2 := m_blk (Turns.of_below K1.out HB2.out (Nat.le_refl _)).held
  have c5 : w2.cell? ⟨m, 5, none⟩ = some (.string s.out) := k2.cell 5
  have f5 := k2.frozen 5
  clear hcv hu hb2 k2
  have e42 := Ht.out
  go_wp2_with fail
  have K2 := (Turns.of_below K1.out HB2.out (Nat.le_refl _)).held
  refine (fails_any B m _ _ mv (pop s) false _ K2 (-57) (by decide)).mono ?_
  rintro e w3 ⟨v2, ip, ws, rfl, h1, h2⟩
  have Hv : Hid (Acts w B m sv bv mv s (.bad (-57) false) (.returned v2) w3) := ⟨v2, ip, ws, rfl, h1, pop s, rfl, Goes.of_below (Goes.of_below G1.out HB2.out (Nat.le_refl _)) h2 (Nat.le_refl _)⟩
  obtain ⟨T, p, rfl⟩ := h1.form
  clear h1 h2 e42
  go_wp2_with fail
  go_ret
  exact Hv.out
set_option maxHeartbeats 1000000 in
set_option maxRecDepth 100000 in
theorem say41_ok (B m : Nat) (sv bv mv : Value) (s : S) (w : World) (H : Held w B (mach m sv bv mv s false)) (hB : B ≤ w.heap.size) (v : Int) (τ : ByteArray) (hv : top s.stack = v) (hτ : ⟨#[byteOf v]⟩ = τ) (hr : s.out.size + τ.size ≤ 2000) (hs : 1 ≤ s.stack.length) (hs2 : s.stack.length ≤ 100) : Calls Tryz.prog 104 #[.pointer (some ⟨m, 0, none⟩), .int .i64 41] w (Acts w B m sv bv mv s (.ok { pop s with out := s.out ++ τ })) := by
  have Hx := Lib.hid hv
  have Ht := Lib.hid hτ
  clear hv hτ
  have hr2 : ¬ (2000 : Int) < (s.out.size : Int) + (τ.size : Int) := by omega
  have ht : τ.size ≤ 100 := by rw [← Ht.out]; show 1 ≤ 100; decide
  go_enter Tryz.func104, Tryz.ntmps104
  go_wp2_with fail
  refine (pop_any B m _ _ mv s false _ H (ne_of_pos (by omega)) (by omega)).mono ?_
  rintro e w1 ⟨rfl, sv1, bv1, N1⟩
  have K1 := Lib.hid N1.held
  have G1 := Lib.hid (⟨sv1, bv1, N1⟩ : Goes w B m sv bv mv s false (pop s) _ w1)
  have M1 := Lib.hid N1
  have hb1 : B ≤ w1.heap.size := Nat.le_trans hB N1.touch.size
  clear N1
  rw [Hx.out]
  have hrow : (w1.alloc (.cells #[.int .u8 ((byteOf v).toNat : Int)] 5)).ownsRow 0 5 1 (.slice (some ⟨w1.heap.size, 0, none⟩) [byteOf v].length 1) [byteOf v].length (Dg.bcells [byteOf v]) :=
    ⟨by simp [Dg.bcells], .inr ⟨w1.heap.size, 1, _, rfl, Nat.zero_le _, heap_alloc_new _ _, by simp, by simp [maxLen], by simp, by simp [Dg.bcells]⟩⟩
  have hcv := Dg.conv_bytes hrow
  simp only [List.length_singleton] at hcv
  have hu := u8_of v
  clear hrow
  have hb2 : Below w1.heap.size w1 (w1.alloc (.cells #[.int .u8 ((byteOf v).toNat : Int)] 5)) := (Below.refl _ _).alloc (Nat.le_refl _) _
  have HB2 := Lib.hid hb2
  have k2 := m_blk (Turns.of_below K1.out hb2 (Nat.le_refl _)).held
  have c5 : (w1.alloc (.cells #[.int .u8 ((byteOf v).toNat : Int)] 5)).cell? ⟨m, 5, none⟩ = some (.string s.out) := k2.cell 5
  have f5 := k2.frozen 5
  clear hb2 k2
  have e41 := Ht.out
  go_wp2_with fail
  have G := Lib.hid (Goes.out (Goes.of_below G1.out HB2.out (Nat.le_refl _)) (s.out ++ τ))
  go_ret
  exact ⟨rfl, false, G.out⟩
set_option maxHeartbeats 1000000 in
set_option maxRecDepth 100000 in
theorem say41_full (B m : Nat) (sv bv mv : Value) (s : S) (w : World) (H : Held w B (mach m sv bv mv s false)) (hB : B ≤ w.heap.size) (v : Int) (τ : ByteArray) (hv : top s.stack = v) (hτ : ⟨#[byteOf v]⟩ = τ) (hr : 2000 < s.out.size + τ.size) (ho : s.out.size ≤ 5000) (hs : 1 ≤ s.stack.length) (hs2 : s.stack.length ≤ 100) : Calls Tryz.prog 104 #[.pointer (some ⟨m, 0, none⟩), .int .i64 41] w (Acts w B m sv bv mv s (.bad (-57) false)) := by
  have Hx := Lib.hid hv
  have Ht := Lib.hid hτ
  clear hv hτ
  have hr2 : (2000 : Int) < (s.out.size : Int) + (τ.size : Int) := by omega
  have ht : τ.size ≤ 100 := by rw [← Ht.out]; show 1 ≤ 100; decide
  go_enter Tryz.func104, Tryz.ntmps104
  go_wp2_with fail
  refine (pop_any B m _ _ mv s false _ H (ne_of_pos (by omega)) (by omega)).mono ?_
  rintro e w1 ⟨rfl, sv1, bv1, N1⟩
  have K1 := Lib.hid N1.held
  have G1 := Lib.hid (⟨sv1, bv1, N1⟩ : Goes w B m sv bv mv s false (pop s) _ w1)
  have M1 := Lib.hid N1
  have hb1 : B ≤ w1.heap.size := Nat.le_trans hB N1.touch.size
  clear N1
  rw [Hx.out]
  have hrow : (w1.alloc (.cells #[.int .u8 ((byteOf v).toNat : Int)] 5)).ownsRow 0 5 1 (.slice (some ⟨w1.heap.size, 0, none⟩) [byteOf v].length 1) [byteOf v].length (Dg.bcells [byteOf v]) :=
    ⟨by simp [Dg.bcells], .inr ⟨w1.heap.size, 1, _, rfl, Nat.zero_le _, heap_alloc_new _ _, by simp, by simp [maxLen], by simp, by simp [Dg.bcells]⟩⟩
  have hcv := Dg.conv_bytes hrow
  simp only [List.length_singleton] at hcv
  have hu := u8_of v
  clear hrow
  have hb2 : Below w1.heap.size w1 (w1.alloc (.cells #[.int .u8 ((byteOf v).toNat : Int)] 5)) := (Below.refl _ _).alloc (Nat.le_refl _) _
  have HB2 := Lib.hid hb2
  have k2 := m_blk (Turns.of_below K1.out hb2 (Nat.le_refl _)).held
  have c5 : (w1.alloc (.cells #[.int .u8 ((byteOf v).toNat : Int)] 5)).cell? ⟨m, 5, none⟩ = some (.string s.out) := k2.cell 5
  have f5 := k2.frozen 5
  clear hb2 k2
  have e41 := Ht.out
  go_wp2_with fail
  have K2 := (Turns.of_below K1.out HB2.out (Nat.le_refl _)).held
  refine (fails_any B m _ _ mv (pop s) false _ K2 (-57) (by decide)).mono ?_
  rintro e w3 ⟨v2, ip, ws, rfl, h1, h2⟩
  have Hv : Hid (Acts w B m sv bv mv s (.bad (-57) false) (.returned v2) w3) := ⟨v2, ip, ws, rfl, h1, pop s, rfl, Goes.of_below (Goes.of_below G1.out HB2.out (Nat.le_refl _)) h2 (Nat.le_refl _)⟩
  obtain ⟨T, p, rfl⟩ := h1.form
  clear h1 h2 e41 hcv hu
  go_wp2_with fail
  go_ret
  exact Hv.out
set_option maxHeartbeats 1000000 in
set_option maxRecDepth 100000 in
theorem key_end (B m : Nat) (sv bv mv : Value) (s : S) (t : Bool) (w : World) (H : Held w B (mach m sv bv mv s t)) (hB : B ≤ w.heap.size) (hr : (s.inp.size : Int) ≤ s.read) (hs2 : s.stack.length ≤ 100) : Calls Tryz.prog 105 #[.pointer (some ⟨m, 0, none⟩)] w (fun e w' => e = .returned (.tuple #[]) ∧ Goes w B m sv bv mv s t (key s) t w') := by
  have k := m_blk H
  have c7 : w.cell? ⟨m, 7, none⟩ = some (.int .i64 s.read) := k.cell 7
  have c6 : w.cell? ⟨m, 6, none⟩ = some (.string s.inp) := k.cell 6
  have hfin : key s = push s [-1] := if_pos hr
  rw [hfin]
  have HK := Lib.hid H
  clear k H hfin
  go_enter Tryz.func105, Tryz.ntmps105
  go_wp2_with fail
  go_quiet (fail)
  go_wp2_with fail
  refine (push_lit B m _ _ mv s t _ (HK.out.drewN _) hB [-1] _ rfl _ _ rfl (by simp; omega)).mono ?_
  rintro e w1 ⟨rfl, g1⟩
  have G := Lib.hid (Goes.from ((Turns.refl HK.out).drewN _) g1)
  clear g1
  go_wp2_with fail
  exact bodyPost_ret (results_none rfl _ _ _) rfl ⟨rfl, G.out⟩
set_option maxHeartbeats 1000000 in
set_option maxRecDepth 100000 in
theorem key_byte (B m : Nat) (sv bv mv : Value) (s : S) (t : Bool) (w : World) (H : Held w B (mach m sv bv mv s t)) (hB : B ≤ w.heap.size) (k : Nat) (hk : s.read = k) (hr : k < s.inp.size) (hi : s.inp.size ≤ 5000) (hs2 : s.stack.length ≤ 100) : Calls Tryz.prog 105 #[.pointer (some ⟨m, 0, none⟩)] w (fun e w' => e = .returned (.tuple #[]) ∧ Goes w B m sv bv mv s t (key s) t w') := by
  have kb := m_blk H
  have c7 : w.cell? ⟨m, 7, none⟩ = some (.int .i64 s.read) := kb.cell 7
  have c6 : w.cell? ⟨m, 6, none⟩ = some (.string s.inp) := kb.cell 6
  have hn : ¬ (s.inp.size : Int) ≤ (k : Int) := by omega
  have hfin : key s = { push s [((s.inp[k]'hr).toNat : Int)] with read := (k : Int) + 1 } := by
    unfold key
    rw [hk, if_neg hn]
    have h1 : wr ((k : Int) + 1) = (k : Int) + 1 := by unfold wr wrap64; omega
    have h2 : s.inp.data.toList.getD (k : Int).toNat 0 = s.inp[k]'hr := by rw [Int.toNat_natCast, List.getD_eq_getElem?_getD, List.getElem?_eq_getElem (by simpa using hr)]; rfl
    rw [h1, h2]
  rw [hfin]
  rw [hk] at c7
  have Hk := Lib.hid hk
  have HK := Lib.hid H
  have hd : decide (s.inp.size ≤ k) = false := by simpa using hr
  have hw : IntKind.i64.wrap ((s.inp[k]'hr).toNat : Int) = ((s.inp[k]'hr).toNat : Int) := IntWalk.i64_in _ (by have := UInt8.toNat_lt (s.inp[k]'hr); omega)
  clear kb H hfin hk
  go_enter Tryz.func105, Tryz.ntmps105
  go_wp2_with fail
  go_quiet (fail)
  go_wp2_with fail
  go_region_with ((go_at_call 97; refine (push_lit B m _ _ mv s t _ (HK.out.drewN _) hB [((s.inp[k]'hr).toNat : Int)] _ rfl _ _ rfl (by simp; omega)).mono ?_; rintro e w1 ⟨rfl, g1⟩; obtain ⟨sv1, bv1, N⟩ := g1; have k1 := m_blk N.held; have d7 : w1.cell? ⟨m, 7, none⟩ = some (.int .i64 s.read) := k1.cell 7; have f7 := k1.frozen 7; have HN := Lib.hid N; clear N k1))
  all_goals
    rw [Hk.out] at d7
    go_wp2_with fail
    go_end0
    exact ⟨rfl, Goes.read (Goes.from ((Turns.refl HK.out).drewN _) ⟨sv1, bv1, HN.out⟩) _⟩
end Go.Proofs.YtompdfpjmdnhoabGreatDoor.Mc
namespace Go.Proofs.YtompdfpjmdnhoabGreatDoor.Mc
open Go.RowKit Go.Proofs.YtompdfpjmdnhoabGreatDoor.Rs Go.Proofs.YtompdfpjmdnhoabGreatDoor.Ft
section
variable {w w1 : World} {B m : Nat} {sv bv mv : Value} {s1 : S} {t1 : Bool} {R : List Res}
theorem m_ip (N : Turns w B R (mach m sv bv mv s1 t1) w1) (x : Int) : Turns w B R (mach m sv bv mv { s1 with ip := x } t1) (w1.setCell ⟨m, 0, none⟩ (.int .i64 x)) := N.trans (Turns.set N.held 0 (.int .i64 x))
theorem m_handler (N : Turns w B R (mach m sv bv mv s1 t1) w1) (x : Int) : Turns w B R (mach m sv bv mv { s1 with handler := x } t1) (w1.setCell ⟨m, 1, none⟩ (.int .i64 x)) := N.trans (Turns.set N.held 1 (.int .i64 x))
theorem push_lit' (B m : Nat) (sv bv mv : Value) (s : S) (t : Bool) (w : World) (H : Held w B (mach m sv bv mv s t)) (hB : B ≤ w.heap.size) (l : List Int) (vs : Array Value) (hvs : vs = (ints l).toArray) (c n : Nat) (hn : n = l.length) (hs : s.stack.length + l.length ≤ 1000) (k : Nat) (hk : k = w.heap.size) :
    Calls Tryz.prog 97 #[.pointer (some ⟨m, 0, none⟩), .slice (some ⟨k, 0, none⟩) n c] (w.alloc (.cells vs 3)) fun e w' => e = .returned (.tuple #[]) ∧ Goes w B m sv bv mv s t (push s l) t w' := by
  subst hk
  exact push_lit B m sv bv mv s t w H hB l vs hvs c n hn hs
theorem back_lit' (B m : Nat) (sv bv mv : Value) (s : S) (t : Bool) (w : World) (H : Held w B (mach m sv bv mv s t)) (hB : B ≤ w.heap.size) (l : List Int) (vs : Array Value) (hvs : vs = (ints l).toArray) (c n : Nat) (hn : n = l.length) (hs : s.back.length + l.length ≤ 1000) (k : Nat) (hk : k = w.heap.size) :
    Calls Tryz.prog 93 #[.pointer (some ⟨m, 0, none⟩), .slice (some ⟨k, 0, none⟩) n c] (w.alloc (.cells vs 3)) fun e w' => e = .returned (.tuple #[]) ∧ Goes w B m sv bv mv s t (lay s l) t w' := by
  subst hk
  exact back_lit B m sv bv mv s t w H hB l vs hvs c n hn hs
theorem m_threw (N : Turns w B R (mach m sv bv mv s1 t1) w1) (x : Bool) : Turns w B R (mach m sv bv mv s1 x) (w1.setCell ⟨m, 10, none⟩ (.bool x)) := N.trans (Turns.set N.held 10 (.bool x))
end
set_option maxHeartbeats 1000000 in
set_option maxRecDepth 100000 in
theorem endCatch_low (B m : Nat) (sv bv mv : Value) (s : S) (w : World) (H : Held w B (mach m sv bv mv s false)) (hB : B ≤ w.heap.size) (hh : s.handler < 3) (hs2 : s.stack.length ≤ 100) (hb2 : s.back.length ≤ 100) : Calls Tryz.prog 136 #[.pointer (some ⟨m, 0, none⟩)] w (Acts w B m sv bv mv s (.bad (-25) false)) := by
  obtain ⟨SA, sc, rfl⟩ := (m_stack H).slice
  obtain ⟨BA, bc, rfl⟩ := (m_back H).slice
  have k := m_blk H
  have c1 : w.cell? ⟨m, 1, none⟩ = some (.int .i64 s.handler) := k.cell 1
  have c2 : w.cell? ⟨m, 2, none⟩ = some (.slice SA s.stack.length sc) := k.cell 2
  have c3 : w.cell? ⟨m, 3, none⟩ = some (.slice BA s.back.length bc) := k.cell 3
  have HK := Lib.hid H
  generalize s.handler = h at *
  generalize s.back.length = nb at *
  generalize s.stack.length = ns at *
  clear k H
  go_enter Tryz.func136, Tryz.ntmps136
  go_wp2_with fail
  go_quiet (fail)
  go_wp2_with fail
  refine (fails_any B m _ _ mv s false _ (HK.out.drewN _) (-25) (by decide)).mono ?_
  rintro e w9 ⟨v, ip, ws, rfl, h1, h2⟩
  have Hv : Hid (Acts w B m _ _ mv s (.bad (-25) false) (.returned v) w9) := ⟨v, ip, ws, rfl, h1, s, rfl, Goes.of_below (Goes.drewN (Goes.refl HK.out) _) h2 (Nat.le_refl _)⟩
  obtain ⟨T, p, rfl⟩ := h1.form
  clear h1 h2
  go_wp2_with fail
  go_ret
  exact Hv.out
set_option maxHeartbeats 1000000 in
set_option maxRecDepth 100000 in
theorem endCatch_ne (B m : Nat) (sv bv mv : Value) (s : S) (w : World) (H : Held w B (mach m sv bv mv s false)) (hB : B ≤ w.heap.size) (hh : 3 ≤ s.handler) (hn : (s.back.length : Int) ≠ s.handler) (hs2 : s.stack.length ≤ 100) (hb2 : s.back.length ≤ 100) : Calls Tryz.prog 136 #[.pointer (some ⟨m, 0, none⟩)] w (Acts w B m sv bv mv s (.bad (-25) false)) := by
  obtain ⟨SA, sc, rfl⟩ := (m_stack H).slice
  obtain ⟨BA, bc, rfl⟩ := (m_back H).slice
  have k := m_blk H
  have c1 : w.cell? ⟨m, 1, none⟩ = some (.int .i64 s.handler) := k.cell 1
  have c2 : w.cell? ⟨m, 2, none⟩ = some (.slice SA s.stack.length sc) := k.cell 2
  have c3 : w.cell? ⟨m, 3, none⟩ = some (.slice BA s.back.length bc) := k.cell 3
  have HK := Lib.hid H
  have hd : decide (s.handler < 3) = false := decide_eq_false (by omega)
  have he : ((s.back.length : Int) != s.handler) = true := bne_iff_ne.2 hn
  generalize s.handler = h at *
  generalize s.back.length = nb at *
  generalize s.stack.length = ns at *
  clear k H hn
  go_enter Tryz.func136, Tryz.ntmps136
  go_wp2_with fail
  go_quiet (fail)
  go_wp2_with fail
  refine (fails_any B m _ _ mv s false _ (HK.out.drewN _) (-25) (by decide)).mono ?_
  rintro e w9 ⟨v, ip, ws, rfl, h1, h2⟩
  have Hv : Hid (Acts w B m _ _ mv s (.bad (-25) false) (.returned v) w9) := ⟨v, ip, ws, rfl, h1, s, rfl, Goes.of_below (Goes.drewN (Goes.refl HK.out) _) h2 (Nat.le_refl _)⟩
  obtain ⟨T, p, rfl⟩ := h1.form
  clear h1 h2
  go_wp2_with fail
  go_ret
  exact Hv.out
set_option maxHeartbeats 1000000 in
set_option maxRecDepth 100000 in
theorem endCatch_full (B m : Nat) (sv bv mv : Value) (s : S) (w : World) (H : Held w B (mach m sv bv mv s false)) (hB : B ≤ w.heap.size) (hh : 3 ≤ s.handler) (hn : (s.back.length : Int) = s.handler) (hs : 48 ≤ s.stack.length) (hs2 : s.stack.length ≤ 100) (hb2 : s.back.length ≤ 100) : Calls Tryz.prog 136 #[.pointer (some ⟨m, 0, none⟩)] w (Acts w B m sv bv mv s (.bad (-3) false)) := by
  obtain ⟨SA, sc, rfl⟩ := (m_stack H).slice
  obtain ⟨BA, bc, rfl⟩ := (m_back H).slice
  have k := m_blk H
  have c1 : w.cell? ⟨m, 1, none⟩ = some (.int .i64 s.handler) := k.cell 1
  have c2 : w.cell? ⟨m, 2, none⟩ = some (.slice SA s.stack.length sc) := k.cell 2
  have c3 : w.cell? ⟨m, 3, none⟩ = some (.slice BA s.back.length bc) := k.cell 3
  have HK := Lib.hid H
  have hd : decide (s.handler < 3) = false := decide_eq_false (by omega)
  have he : ((s.back.length : Int) != s.handler) = false := by simpa using hn
  have hq : decide (48 ≤ s.stack.length) = true := by simpa using hs
  generalize s.handler = h at *
  generalize s.back.length = nb at *
  generalize s.stack.length = ns at *
  clear k H hn
  go_enter Tryz.func136, Tryz.ntmps136
  go_wp2_with fail
  go_quiet (fail)
  go_wp2_with fail
  refine (fails_any B m _ _ mv s false _ (HK.out.drewN _) (-3) (by decide)).mono ?_
  rintro e w9 ⟨v, ip, ws, rfl, h1, h2⟩
  have Hv : Hid (Acts w B m _ _ mv s (.bad (-3) false) (.returned v) w9) := ⟨v, ip, ws, rfl, h1, s, rfl, Goes.of_below (Goes.drewN (Goes.refl HK.out) _) h2 (Nat.le_refl _)⟩
  obtain ⟨T, p, rfl⟩ := h1.form
  clear h1 h2
  go_wp2_with fail
  go_ret
  exact Hv.out
set_option maxHeartbeats 1000000 in
set_option maxRecDepth 100000 in
theorem endCatch_ok (B m : Nat) (sv bv mv : Value) (s : S) (w : World) (H : Held w B (mach m sv bv mv s false)) (hB : B ≤ w.heap.size) (hh : 3 ≤ s.handler) (hn : (s.back.length : Int) = s.handler) (hs : s.stack.length < 48) (hb2 : s.back.length ≤ 100) : Calls Tryz.prog 136 #[.pointer (some ⟨m, 0, none⟩)] w (Acts w B m sv bv mv s (.ok (push { popBack (popBack (popBack s)) with handler := top (popBack s).back, ip := top (popBack (popBack s)).back } [0]))) := by
  obtain ⟨SA, sc, rfl⟩ := (m_stack H).slice
  obtain ⟨BA, bc, rfl⟩ := (m_back H).slice
  have k := m_blk H
  have c1 : w.cell? ⟨m, 1, none⟩ = some (.int .i64 s.handler) := k.cell 1
  have c2 : w.cell? ⟨m, 2, none⟩ = some (.slice SA s.stack.length sc) := k.cell 2
  have c3 : w.cell? ⟨m, 3, none⟩ = some (.slice BA s.back.length bc) := k.cell 3
  have p1 : s.back.dropLast.length = s.back.length - 1 := List.length_dropLast
  have p2 : s.back.dropLast.dropLast.length = s.back.length - 2 := by simp [List.length_dropLast]; omega
  have P1 := Lib.hid p1
  have P2 := Lib.hid p2
  have hb3 : 3 ≤ s.back.length := by omega
  have HK := Lib.hid H
  have hd : decide (s.handler < 3) = false := decide_eq_false (by omega)
  have he : ((s.back.length : Int) != s.handler) = false := by simpa using hn
  have hq : decide (48 ≤ s.stack.length) = false := by simpa using hs
  obtain ⟨x, hx⟩ : ∃ x, top (popBack s).back = x := ⟨_, rfl⟩
  obtain ⟨y, hy⟩ : ∃ y, top (popBack (popBack s)).back = y := ⟨_, rfl⟩
  rw [hx, hy]
  have Hx := Lib.hid hx
  have Hy := Lib.hid hy
  clear k H hn p1 p2 hx hy
  go_enter Tryz.func136, Tryz.ntmps136
  go_wp2_with fail
  go_quiet (fail)
  go_wp2_with fail
  refine (popBack_any B m _ _ mv s false _ (HK.out.drewN _) (ne_of_pos (by omega)) (by omega)).mono ?_
  rintro e w1 ⟨rfl, sv1, bv1, N⟩
  have M1 := Lib.hid (((Turns.refl HK.out).drewN _).trans N)
  clear N
  generalize top s.back = z
  go_wp2_with fail
  refine (popBack_any B m _ _ mv (popBack s) false _ M1.out.held (ne_of_pos (by show 0 < s.back.dropLast.length; rw [P1.out]; omega)) (by show s.back.dropLast.length ≤ 1000; rw [P1.out]; omega)).mono ?_
  rintro e w2 ⟨rfl, sv2, bv2, N⟩
  rw [Hx.out]
  have k2 := m_blk N.held
  have d1 : w2.cell? ⟨m, 1, none⟩ = some (.int .i64 s.handler) := k2.cell 1
  have f1 := k2.frozen 1
  have M2 := Lib.hid (m_handler (M1.out.trans N) x)
  clear N k2
  go_wp2_with fail
  refine (popBack_any B m _ _ mv { popBack (popBack s) with handler := x } false _ M2.out.held (ne_of_pos (by show 0 < s.back.dropLast.dropLast.length; rw [P2.out]; omega)) (by show s.back.dropLast.dropLast.length ≤ 1000; rw [P2.out]; omega)).mono ?_
  rintro e w3 ⟨rfl, sv3, bv3, N⟩
  rw [show top ({ popBack (popBack s) with handler := x } : S).back = y from Hy.out]
  have k3 := m_blk N.held
  have d0 : w3.cell? ⟨m, 0, none⟩ = some (.int .i64 s.ip) := k3.cell 0
  have f0 := k3.frozen 0
  have M3 := Lib.hid (m_ip (M2.out.trans N) y)
  have hb4 : B ≤ (w3.setCell ⟨m, 0, none⟩ (.int .i64 y)).heap.size := Nat.le_trans hB M3.out.touch.size
  clear N k3
  go_wp2_with fail
  refine (push_lit' B m _ _ mv { popBack { popBack (popBack s) with handler := x } with ip := y } false _ M3.out.held hb4 [0] _ rfl _ _ rfl (by show s.stack.length + 1 ≤ 1000; omega) _ (by simp)).mono ?_
  rintro e w4 ⟨rfl, g4⟩
  have G := Lib.hid (Goes.from M3.out g4)
  clear g4
  go_wp2_with fail
  go_ret
  have hfin : push { popBack (popBack (popBack s)) with handler := x, ip := y } [0] = push { popBack { popBack (popBack s) with handler := x } with ip := y } [0] := rfl
  rw [hfin]
  exact ⟨rfl, false, G.out⟩
end Go.Proofs.YtompdfpjmdnhoabGreatDoor.Mc
