/-
  Chapter 2 (fault): New, Wrap, Is, and of nil.
-/
import Derived.Test.YtcfkhbkhejaegaaDoorFtE
namespace Go.Proofs.YtcfkhbkhejaegaaDoor.Ft
open Go.RowKit Go.Extern.Stop Go.Stop Go.Extern

set_option maxRecDepth 100000 in
theorem new_zero (ip : Int) (w : World) : Calls Tryd.prog 20 #[.int .i64 0, .int .i64 ip] w fun e w' => e = .returned .nilIface ∧ w = w' := by
  go_enter Tryd.func20, Tryd.ntmps20
  go_wp2_with fail
  go_ret
  exact ⟨rfl, rfl⟩
set_option maxRecDepth 100000 in
theorem new_any (code ip : Int) (hc : code ≠ 0) (w : World) : Calls Tryd.prog 20 #[.int .i64 code, .int .i64 ip] w fun e w' => ∃ v, e = .returned v ∧ ErrIs w' code ip [] v ∧ Below w.heap.size w w' := by
  have h0 : (code == 0) = false := by simpa using hc
  go_enter Tryd.func20, Tryd.ntmps20
  go_wp2_with fail
  go_ret
  exact ⟨_, rfl, ⟨_, rfl, Blk.new _ _ _⟩, (Below.refl _ _).alloc (Nat.le_refl _) _⟩
set_option maxRecDepth 100000 in
theorem wrap_nil (s : ByteArray) (w : World) : Calls Tryd.prog 22 #[.nilIface, .string s] w fun e w' => e = .returned .nilIface ∧ w = w' := by
  go_enter Tryd.func22, Tryd.ntmps22
  go_wp2_with fail
  go_ret
  exact ⟨rfl, rfl⟩
set_option maxRecDepth 100000 in
theorem wrap_any (code ip : Int) (ws : List ByteArray) (v : Value) (s : ByteArray) (w : World) (H : ErrIs w code ip ws v) :
    Calls Tryd.prog 22 #[v, .string s] w fun e w' => ∃ v', e = .returned v' ∧ ErrIs w' code ip (s :: ws) v' ∧ Below w.heap.size w w' := by
  have HH := Lib.hid H
  obtain ⟨tv, pv, rfl⟩ := H.form
  clear H
  go_enter Tryd.func22, Tryd.ntmps22
  go_wp2_with fail
  go_ret
  have hb : Below w.heap.size w (w.alloc (.cells #[.string s, .iface tv pv] 76)) := (Below.refl _ _).alloc (Nat.le_refl _) _
  exact ⟨_, rfl, ⟨_, _, rfl, Blk.new _ _ _, HH.out.below hb⟩, hb⟩
set_option maxRecDepth 100000 in
theorem fault_is_nil (other : Int) (w : World) : Calls Tryd.prog 26 #[.nilIface, .int .i64 other] w fun e w' => e = .returned (.bool false) ∧ w = w' := by
  go_enter Tryd.func26, Tryd.ntmps26
  go_wp2_with fail
  go_ret
  exact ⟨rfl, rfl⟩
set_option maxRecDepth 100000 in
theorem fault_is_zero (v : Value) (t : TypeId) (p : Value) (hv : v = .iface t p) (w : World) : Calls Tryd.prog 26 #[v, .int .i64 0] w fun e w' => e = .returned (.bool false) ∧ w = w' := by
  subst hv
  go_enter Tryd.func26, Tryd.ntmps26
  go_wp2_with fail
  go_ret
  exact ⟨rfl, rfl⟩
set_option maxRecDepth 100000 in
theorem fault_is_any (code ip other : Int) (ho : other ≠ 0) (ws : List ByteArray) (v : Value) (w : World) (H : ErrIs w code ip ws v) :
    Calls Tryd.prog 26 #[v, .int .i64 other] w fun e w' => e = .returned (.bool (other == code)) ∧ Below w.heap.size w w' := by
  have h0 : (other == 0) = false := by simpa using ho
  have h1 : (other != 0) = true := by simpa using ho
  have hb : Below w.heap.size w (w.alloc (.cells #[.int .i64 other, .int .i64 0] 73)) := (Below.refl _ _).alloc (Nat.le_refl _) _
  have HI := Lib.hid (Is_any code ip other 0 ws v w.heap.size w _ H (Blk.new w _ _) hb (Nat.le_refl _))
  obtain ⟨tv, pv, rfl⟩ := H.form
  clear H hb
  go_enter Tryd.func26, Tryd.ntmps26
  go_wp2_with fail
  refine HI.out.mono ?_
  rintro e w' ⟨rfl, m, rfl⟩
  go_wp2_with fail
  go_ret
  exact ⟨by simp, below_of_draw ((Below.refl _ _).alloc (Nat.le_refl _) _) _⟩
end Go.Proofs.YtcfkhbkhejaegaaDoor.Ft
