/-
  Chapter 2 (fault): errors.Is.
-/
import Derived.Test.YtcfkhbkhejaegaaDoorFtD
namespace Go.Proofs.YtcfkhbkhejaegaaDoor.Ft
open Go.RowKit Go.Extern.Stop Go.Stop Go.Extern

set_option maxRecDepth 100000 in
theorem fis_any (b tb : Nat) (code ip other z : Int) (w : World) (hb : Blk w b 73 #[.int .i64 code, .int .i64 ip]) (ht : Blk w tb 73 #[.int .i64 other, .int .i64 z]) :
    Calls Tryd.prog 179 #[.pointer (some ⟨b, 0, none⟩), .iface 71 (.pointer (some ⟨tb, 0, none⟩))] w fun e w' => e = .returned (.bool (other == code)) ∧ ∃ m, w' = w.drewN m := by
  have c0 : w.cell? ⟨b, 0, none⟩ = some (.int .i64 code) := hb.cell 0
  have d0 : w.cell? ⟨tb, 0, none⟩ = some (.int .i64 other) := ht.cell 0
  have x0 := taF
  go_enter Tryd.func179, Tryd.ntmps179
  go_wp2_with fail
  go_quiet (fail)
  go_wp2_with fail
  go_ret
  exact ⟨rfl, _, rfl⟩

theorem ErrIs.lt {w : World} {code ip : Int} : ∀ {ws : List ByteArray} {v : Value}, ErrIs w code ip ws v → ∀ b, v = .iface 71 (.pointer (some ⟨b, 0, none⟩)) → b < w.heap.size
  | [], _, ⟨b, h1, h2⟩, b', h => by rw [h1] at h; injection h with _ h; injection h with h; injection h with h; injection h with h; subst h; exact h2.lt
  | _ :: _, _, ⟨_, _, h1, _, _⟩, _, h => by rw [h1] at h; injection h with h; exact absurd h (by decide)
theorem ErrIs.drewN {w : World} {code ip : Int} (m : Nat) : ∀ {ws : List ByteArray} {v : Value}, ErrIs w code ip ws v → ErrIs (w.drewN m) code ip ws v
  | [], _, h => h
  | _ :: _, _, ⟨b, u, h1, h2, h3⟩ => ⟨b, u, h1, h2, ErrIs.drewN m h3⟩

set_option maxHeartbeats 4000000 in
set_option maxRecDepth 100000 in
theorem is_any (code ip other z : Int) (ws : List ByteArray) (v : Value) (tb : Nat) (w0 w : World) (H : ErrIs w0 code ip ws v) (ht : Blk w tb 73 #[.int .i64 other, .int .i64 z])
    (hb0 : Below w0.heap.size w0 w) (hfresh : w0.heap.size ≤ tb) :
    Calls Tryd.prog 98 #[v, .iface 71 (.pointer (some ⟨tb, 0, none⟩)), .bool true] w fun e w' => e = .returned (.bool (other == code)) ∧ ∃ m, w' = w.drewN m := by
  have x1 := taIsF
  have x2 := taIsS
  have x3 := taUnwrapF
  have x4 := taUnwrapS
  have x5 := taUnwrapsF
  have mI := mIsF
  have mU := mUnwrapS
  have HH := Lib.hid H
  have HT := Lib.hid ht
  have HN := Lib.hid hfresh
  have HW := Lib.hid hb0
  clear H ht hfresh hb0
  go_enter Tryd.func98, Tryd.ntmps98
  go_wp2_with fail
  go_loopg [0] ws.length (fun g ve wr => ∃ (l : List ByteArray) (q : Nat), g = l.length ∧ Hid (ErrIs w0 code ip l ve) ∧ wr = w.drewN q)
  case atStart => exact ⟨ws, 0, rfl, HH, rfl⟩
  case round =>
    obtain ⟨l, q, hg, HE, rfl⟩ := hrel
    have Hg := Lib.hid hg
    clear hg HH
    cases l with
    | nil =>
      obtain ⟨b, rfl, hb⟩ := HE.out.below HW.out
      have hne : b ≠ tb := by have := HE.out.lt b rfl; have := HN.out; omega
      have hi := fis_any b tb code ip other z (w.drewN q) hb HT.out
      have HI := Lib.hid hi
      obtain ⟨i1, hi1, hc1⟩ : ∃ i, Tryd.prog.info? 71 = some i ∧ i.comparable = true := by
        have : (Tryd.prog.info? 71).map (·.comparable) = some true := by kernel_rfl
        cases h : Tryd.prog.info? 71 with
        | none => rw [h] at this; cases this
        | some i => rw [h] at this; exact ⟨i, rfl, Option.some.inj this⟩
      obtain ⟨i2, hi2, hc2⟩ : ∃ i, Tryd.prog.info? 73 = some i ∧ i.size ≠ 0 := by
        have : (Tryd.prog.info? 73).map (·.size) = some 2 := by kernel_rfl
        cases h : Tryd.prog.info? 73 with
        | none => rw [h] at this; cases this
        | some i => rw [h] at this; exact ⟨i, rfl, by have h3 : i.size = 2 := Option.some.inj this; omega⟩
      have e1 := run_eql_iface_ptr_other (P := Tryd.prog) (w := w.drewN q) (a := ⟨b, 0, none⟩) (b := ⟨tb, 0, none⟩) Tryd.underlying35 Tryd.underlying71 hi1 hc1 hi2 hc2 (by intro h; injection h with h; exact hne h) hb HT.out
      clear hi HE hb
      cases hoc : (other == code) with
      | true =>
        rw [hoc] at HI
        go_wp2_with fail
        refine HI.out.mono ?_
        rintro e w' ⟨rfl, m, rfl⟩
        go_wp2_with fail
        go_ret
        exact ⟨by rw [hoc]; rfl, _, rfl⟩
      | false =>
        rw [hoc] at HI
        go_wp2_with fail
        refine HI.out.mono ?_
        rintro e w' ⟨rfl, m, rfl⟩
        go_wp2_with fail
        go_ret
        exact ⟨by rw [hoc]; rfl, _, rfl⟩
    | cons s r =>
      obtain ⟨b, u, rfl, hb0, hr⟩ := HE.out
      have hb := hb0.below HW.out hb0.lt
      obtain ⟨tu, pu, rfl⟩ := hr.form
      have HU := Lib.hid (unwrap_any b s _ (w.drewN q) hb)
      have HR := Lib.hid hr
      have e2 := run_eql_iface_types (P := Tryd.prog) 74 71 (.pointer (some ⟨b, 0, none⟩)) (.pointer (some ⟨tb, 0, none⟩)) Tryd.underlying35 (by decide) (w.drewN q)
      clear hr HE hb hb0
      go_wp2_with fail
      refine HU.out.mono ?_
      rintro e w' ⟨rfl, rfl⟩
      go_wp2_with fail
      go_roundg r.length
      case rel => exact ⟨r, q, rfl, HR, rfl⟩
      case measure => rw [Hg.out]; exact Nat.lt_succ_self _

set_option maxHeartbeats 2000000 in
set_option maxRecDepth 100000 in
theorem Is_any (code ip other z : Int) (ws : List ByteArray) (v : Value) (tb : Nat) (w0 w : World) (H : ErrIs w0 code ip ws v) (ht : Blk w tb 73 #[.int .i64 other, .int .i64 z])
    (hb0 : Below w0.heap.size w0 w) (hfresh : w0.heap.size ≤ tb) :
    Calls Tryd.prog 42 #[v, .iface 71 (.pointer (some ⟨tb, 0, none⟩))] w fun e w' => e = .returned (.bool (other == code)) ∧ ∃ m, w' = w.drewN m := by
  have h97 := @run_callFunc_extern Tryd.prog 97 _ ReflectliteType.typeOf Tryd.func97 (by kernel_rfl) (by kernel_rfl) (by kernel_rfl) (by kernel_rfl)
  have h188 := @run_callFunc_extern Tryd.prog 188 _ (ReflectliteType.method (fun t => do Rtype.noPackHeld "Comparable" t; pure (.bool (← typeInfo t).comparable))) Tryd.func188 (by kernel_rfl) (by kernel_rfl) (by kernel_rfl) (by kernel_rfl)
  have tF := typeOfF
  have cF : ∀ w : World, (ReflectliteType.method (fun t => do Rtype.noPackHeld "Comparable" t; Functor.map (fun a : TypeInfo => Value.bool a.comparable) (typeInfo t)) #[.agg #[.pointer (some ⟨8, 71, none⟩)]]).run Tryd.prog w = .ok (.bool true) w := fun w => by kernel_rfl
  have mC := mComparable
  have HI := Lib.hid (is_any code ip other z ws v tb w0 w H ht hb0 hfresh)
  obtain ⟨tv, pv, rfl⟩ := H.form
  clear H ht hfresh hb0
  go_enter Tryd.func42, Tryd.ntmps42
  go_wp2_with fail
  refine HI.out.mono ?_
  rintro e w' ⟨rfl, m, rfl⟩
  go_wp2_with fail
  go_ret
  exact ⟨rfl, _, rfl⟩

end Go.Proofs.YtcfkhbkhejaegaaDoor.Ft
