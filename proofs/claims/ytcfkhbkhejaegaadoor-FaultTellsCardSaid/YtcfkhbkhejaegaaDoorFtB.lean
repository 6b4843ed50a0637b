/-
  Chapter 2 (fault): an error that is a fault, wrapped by words; errors.as at fault's two targets.
-/
import Derived.Test.YtcfkhbkhejaegaaDoorFtA
import Derived.Deep.LoopGhost
import Derived.Deep.DeepCutAuto
import Derived.Deep.CutBlock
import Derived.BigQuiet
namespace Go.Proofs.YtcfkhbkhejaegaaDoor.Ft
open Go.RowKit Go.Extern.Stop Go.Stop Go.Extern

/-- v is a fault, seen from words, the outermost first. -/
def ErrIs (w : World) (code ip : Int) : List ByteArray → Value → Prop
  | [], v => ∃ b, v = .iface 71 (.pointer (some ⟨b, 0, none⟩)) ∧ Blk w b 73 #[.int .i64 code, .int .i64 ip]
  | s :: r, v => ∃ b u, v = .iface 74 (.pointer (some ⟨b, 0, none⟩)) ∧ Blk w b 76 #[.string s, u] ∧ ErrIs w code ip r u

theorem ErrIs.below {w w' : World} {code ip : Int} (hb : Below w.heap.size w w') : ∀ {ws : List ByteArray} {v : Value}, ErrIs w code ip ws v → ErrIs w' code ip ws v
  | [], _, ⟨b, h1, h2⟩ => ⟨b, h1, h2.below hb h2.lt⟩
  | _ :: _, _, ⟨b, u, h1, h2, h3⟩ => ⟨b, u, h1, h2.below hb h2.lt, ErrIs.below hb h3⟩

theorem unwrap_any (b : Nat) (s : ByteArray) (u : Value) (w : World) (hb : Blk w b 76 #[.string s, u]) :
    Calls Tryd.prog 181 #[.pointer (some ⟨b, 0, none⟩)] w fun e w' => e = .returned u ∧ w = w' := by
  have c1 : w.cell? ⟨b, 1, none⟩ = some u := hb.cell 1
  go_enter Tryd.func181, Tryd.ntmps181
  go_wp2_with fail
  go_ret
  exact ⟨rfl, rfl⟩
theorem ErrIs.form {w : World} {code ip : Int} : ∀ {ws : List ByteArray} {v : Value}, ErrIs w code ip ws v → ∃ t p, v = .iface t p
  | [], _, ⟨_, h1, _⟩ => ⟨_, _, h1⟩
  | _ :: _, _, ⟨_, _, h1, _, _⟩ => ⟨_, _, h1⟩

set_option maxHeartbeats 4000000 in
set_option maxRecDepth 100000 in
theorem as_f (code ip : Int) (ws : List ByteArray) (v : Value) (t a : Nat) (w : World) (H : ErrIs w code ip ws v) (ht : w.cell? ⟨t, 0, none⟩ = some (.pointer none)) (hf : w.frozen? ⟨t, 0, none⟩ = false)
    (ha : w.cell? ⟨a, 0, none⟩ = some (.pointer (some ⟨t, 0, none⟩))) :
    Calls Tryd.prog 96 #[v, .iface 109 (.pointer (some ⟨t, 0, none⟩)), .agg #[.pointer (some ⟨8, 109, none⟩), .pointer (some ⟨a, 0, none⟩), .int .u64 150], .iface 154 (.agg #[.pointer (some ⟨8, 71, none⟩)])] w
      fun e w' => e = .returned (.bool true) ∧ ∃ b w1, Below w.heap.size w w1 ∧ Blk w1 b 73 #[.int .i64 code, .int .i64 ip] ∧ w' = w1.setCell ⟨t, 0, none⟩ (.pointer (some ⟨b, 0, none⟩)) := by
  have h97 := @run_callFunc_extern Tryd.prog 97 _ ReflectliteType.typeOf Tryd.func97 (by kernel_rfl) (by kernel_rfl) (by kernel_rfl) (by kernel_rfl)
  have h187 := @run_callFunc_extern Tryd.prog 187 _ (ReflectliteType.relation "AssignableTo" ReflectliteType.assignableTo) Tryd.func187 (by kernel_rfl) (by kernel_rfl) (by kernel_rfl) (by kernel_rfl)
  have h125 := @run_callFunc_extern Tryd.prog 125 _ (ReflectliteValue.method (ReflectliteValue.valueError "reflectlite.Value.Elem" 0) ReflectliteValue.elem) Tryd.func125 (by kernel_rfl) (by kernel_rfl) (by kernel_rfl) (by kernel_rfl)
  have h126 := @run_callFunc_extern Tryd.prog 126 _ ReflectliteValue.set Tryd.func126 (by kernel_rfl) (by kernel_rfl) (by kernel_rfl) (by kernel_rfl)
  have h93 := @run_callFunc_extern Tryd.prog 93 _ (fun args => ReflectliteValue.unpack (args.getD 0 (.tuple #[]))) Tryd.func93 (by kernel_rfl) (by kernel_rfl) (by kernel_rfl) (by kernel_rfl)
  have tF := typeOfF
  have tS := typeOfS
  have aF := assignFF
  have aS := assignSF
  have vF := valueOfF
  have mA := mAssignableTo
  have mU := mUnwrapS
  have x1 := taAsS
  have x2 := taUnwrapS
  have HH := Lib.hid H
  have htl : t < w.heap.size := by
    rcases Nat.lt_or_ge t w.heap.size with h | h
    · exact h
    · simp [World.cell?, Array.getElem?_eq_none h] at ht
  have hal : a < w.heap.size := by
    rcases Nat.lt_or_ge a w.heap.size with h | h
    · exact h
    · simp [World.cell?, Array.getElem?_eq_none h] at ha
  clear H
  go_enter Tryd.func96, Tryd.ntmps96
  go_wp2_with fail
  go_loopg [0] ws.length (fun g ve wr => ∃ (l : List ByteArray), g = l.length ∧ Hid (ErrIs wr code ip l ve) ∧ Hid (Blk wr w.heap.size 113 #[.pointer (some ⟨8, 109, none⟩), .pointer (some ⟨a, 0, none⟩), .int .u64 150]) ∧ Hid (Below w.heap.size w wr))
  case atStart => exact ⟨ws, rfl, HH.out.below ((Below.refl _ _).alloc (Nat.le_refl _) _), Blk.new _ _ _, (Below.refl _ _).alloc (Nat.le_refl _) _⟩
  case round =>
    obtain ⟨l, hg, HE, HK, HB⟩ := hrel
    have Hg := Lib.hid hg
    clear hg HH
    have k0 := HK.out.cell 0
    have k1 := HK.out.cell 1
    have k2 := HK.out.cell 2
    have ht2 : wr.cell? ⟨t, 0, none⟩ = some (.pointer none) := (HB.out.cell (p := ⟨t, 0, none⟩) htl).trans ht
    have hf2 : wr.frozen? ⟨t, 0, none⟩ = false := by have := HB.out.block t htl; simp only [World.frozen?] at hf ⊢; rw [this]; exact hf
    have ha2 : wr.cell? ⟨a, 0, none⟩ = some (.pointer (some ⟨t, 0, none⟩)) := (HB.out.cell (p := ⟨a, 0, none⟩) hal).trans ha
    cases l with
    | nil =>
      obtain ⟨b, rfl, hb⟩ := HE.out
      have el := elemVPF ⟨a, 0, none⟩ ⟨t, 0, none⟩ wr ha2
      have hsz : w.heap.size ≤ wr.heap.size := HB.out.size
      have st := setF ⟨t, 0, none⟩ ⟨wr.heap.size, 0, none⟩ ⟨b, 0, none⟩ (.pointer none) (wr.alloc (.cells #[.pointer (some ⟨b, 0, none⟩)] 71)) (by simp) ((World.cell?_alloc_lt _ _ _ (Nat.lt_of_lt_of_le htl hsz)).trans ht2) ((World.frozen?_alloc_old _ _ ⟨t, 0, none⟩ (by show t ≠ wr.heap.size; omega)).trans hf2)
      go_wp2_with fail
      go_ret
      exact ⟨rfl, b, _, HB.out.alloc hsz _, hb.alloc _, rfl⟩
    | cons s r =>
      obtain ⟨b, u, rfl, hb, hr⟩ := HE.out
      obtain ⟨tu, pu, rfl⟩ := hr.form
      have HU := Lib.hid (unwrap_any b s _ wr hb)
      have HR := Lib.hid hr
      clear hr HE
      go_wp2_with fail
      refine HU.out.mono ?_
      rintro e w' ⟨rfl, rfl⟩
      go_wp2_with fail
      go_roundg r.length
      case rel => exact ⟨r, rfl, HR, HK, HB⟩
      case measure => rw [Hg.out]; exact Nat.lt_succ_self _

set_option maxHeartbeats 4000000 in
set_option maxRecDepth 100000 in
theorem as_s_hit (b t a : Nat) (x0 : Value) (w : World) (ht : w.cell? ⟨t, 0, none⟩ = some x0) (hf : w.frozen? ⟨t, 0, none⟩ = false)
    (ha : w.cell? ⟨a, 0, none⟩ = some (.pointer (some ⟨t, 0, none⟩))) :
    Calls Tryd.prog 96 #[.iface 74 (.pointer (some ⟨b, 0, none⟩)), .iface 79 (.pointer (some ⟨t, 0, none⟩)), .agg #[.pointer (some ⟨8, 79, none⟩), .pointer (some ⟨a, 0, none⟩), .int .u64 150], .iface 154 (.agg #[.pointer (some ⟨8, 74, none⟩)])] w
      fun e w' => e = .returned (.bool true) ∧ Below w.heap.size (w.setCell ⟨t, 0, none⟩ (.pointer (some ⟨b, 0, none⟩))) w' := by
  have h97 := @run_callFunc_extern Tryd.prog 97 _ ReflectliteType.typeOf Tryd.func97 (by kernel_rfl) (by kernel_rfl) (by kernel_rfl) (by kernel_rfl)
  have h187 := @run_callFunc_extern Tryd.prog 187 _ (ReflectliteType.relation "AssignableTo" ReflectliteType.assignableTo) Tryd.func187 (by kernel_rfl) (by kernel_rfl) (by kernel_rfl) (by kernel_rfl)
  have h125 := @run_callFunc_extern Tryd.prog 125 _ (ReflectliteValue.method (ReflectliteValue.valueError "reflectlite.Value.Elem" 0) ReflectliteValue.elem) Tryd.func125 (by kernel_rfl) (by kernel_rfl) (by kernel_rfl) (by kernel_rfl)
  have h126 := @run_callFunc_extern Tryd.prog 126 _ ReflectliteValue.set Tryd.func126 (by kernel_rfl) (by kernel_rfl) (by kernel_rfl) (by kernel_rfl)
  have h93 := @run_callFunc_extern Tryd.prog 93 _ (fun args => ReflectliteValue.unpack (args.getD 0 (.tuple #[]))) Tryd.func93 (by kernel_rfl) (by kernel_rfl) (by kernel_rfl) (by kernel_rfl)
  have tS := typeOfS
  have aS := assignSS
  have vS := valueOfS
  have mA := mAssignableTo
  have htl : t < w.heap.size := by
    rcases Nat.lt_or_ge t w.heap.size with h | h
    · exact h
    · simp [World.cell?, Array.getElem?_eq_none h] at ht
  have hal : a < w.heap.size := by
    rcases Nat.lt_or_ge a w.heap.size with h | h
    · exact h
    · simp [World.cell?, Array.getElem?_eq_none h] at ha
  have el := elemVPS ⟨a, 0, none⟩ ⟨t, 0, none⟩ (w.alloc (.cells #[.pointer (some ⟨8, 79, none⟩), .pointer (some ⟨a, 0, none⟩), .int .u64 150] 113)) ((World.cell?_alloc_lt _ _ _ hal).trans ha)
  have st := setS ⟨t, 0, none⟩ ⟨w.heap.size + 1, 0, none⟩ ⟨b, 0, none⟩ x0 ((w.alloc (.cells #[.pointer (some ⟨8, 79, none⟩), .pointer (some ⟨a, 0, none⟩), .int .u64 150] 113)).alloc (.cells #[.pointer (some ⟨b, 0, none⟩)] 74))
    (by rw [World.cell?_alloc_at _ _ _ _ (by simp)]; rfl)
    (by rw [World.cell?_alloc_lt _ _ _ (by simp; omega), World.cell?_alloc_lt _ _ _ htl]; exact ht)
    (by rw [World.frozen?_alloc_old _ _ _ (by simp; omega), World.frozen?_alloc_old _ _ _ (Nat.ne_of_lt htl)]; exact hf)
  go_enter Tryd.func96, Tryd.ntmps96
  go_wp2_with fail
  refine wp_loop_rounds 1 ?_
  rw [rounds_succ]
  go_wp2_with fail
  go_ret
  exact ⟨rfl, ((Below.refl _ _).alloc (by simp) _).alloc (by simp) _⟩

set_option maxHeartbeats 4000000 in
set_option maxRecDepth 100000 in
theorem as_s_miss (b t a : Nat) (w : World) :
    Calls Tryd.prog 96 #[.iface 71 (.pointer (some ⟨b, 0, none⟩)), .iface 79 (.pointer (some ⟨t, 0, none⟩)), .agg #[.pointer (some ⟨8, 79, none⟩), .pointer (some ⟨a, 0, none⟩), .int .u64 150], .iface 154 (.agg #[.pointer (some ⟨8, 74, none⟩)])] w
      fun e w' => e = .returned (.bool false) ∧ Below w.heap.size w w' := by
  have h97 := @run_callFunc_extern Tryd.prog 97 _ ReflectliteType.typeOf Tryd.func97 (by kernel_rfl) (by kernel_rfl) (by kernel_rfl) (by kernel_rfl)
  have h187 := @run_callFunc_extern Tryd.prog 187 _ (ReflectliteType.relation "AssignableTo" ReflectliteType.assignableTo) Tryd.func187 (by kernel_rfl) (by kernel_rfl) (by kernel_rfl) (by kernel_rfl)
  have h125 := @run_callFunc_extern Tryd.prog 125 _ (ReflectliteValue.method (ReflectliteValue.valueError "reflectlite.Value.Elem" 0) ReflectliteValue.elem) Tryd.func125 (by kernel_rfl) (by kernel_rfl) (by kernel_rfl) (by kernel_rfl)
  have h126 := @run_callFunc_extern Tryd.prog 126 _ ReflectliteValue.set Tryd.func126 (by kernel_rfl) (by kernel_rfl) (by kernel_rfl) (by kernel_rfl)
  have h93 := @run_callFunc_extern Tryd.prog 93 _ (fun args => ReflectliteValue.unpack (args.getD 0 (.tuple #[]))) Tryd.func93 (by kernel_rfl) (by kernel_rfl) (by kernel_rfl) (by kernel_rfl)
  have tF := typeOfF
  have aF := assignFS
  have mA := mAssignableTo
  have x1 := taAsF
  have x2 := taUnwrapF
  have x3 := taUnwrapsF
  go_enter Tryd.func96, Tryd.ntmps96
  go_wp2_with fail
  refine wp_loop_rounds 1 ?_
  rw [rounds_succ]
  go_wp2_with fail
  go_ret
  exact ⟨rfl, (Below.refl _ _).alloc (Nat.le_refl _) _⟩
end Go.Proofs.YtcfkhbkhejaegaaDoor.Ft
