/-
  Chapter 2 (fault): errors.As at fault's two targets.
-/
import Derived.Test.YtcfkhbkhejaegaaDoorFtB
namespace Go.Proofs.YtcfkhbkhejaegaaDoor.Ft
open Go.RowKit Go.Extern.Stop Go.Stop Go.Extern

theorem As_nil (t : Value) (w : World) :
    Calls Tryd.prog 41 #[.nilIface, t] w fun e w' => e = .returned (.bool false) ∧ w = w' := by
  go_enter Tryd.func41, Tryd.ntmps41
  go_wp2_with fail
  go_ret
  exact ⟨rfl, rfl⟩

theorem below_set {w w1 : World} (h : Below w.heap.size w w1) (t : Nat) (ht : t < w.heap.size) (x : Value) : Below w.heap.size (w.setCell ⟨t, 0, none⟩ x) (w1.setCell ⟨t, 0, none⟩ x) := by
  refine ⟨h.os, h.tape, h.output, by simpa using h.size, fun k hk => ?_⟩
  have e := h.block k hk
  simp only [World.setCell, Array.getElem?_modify]
  rw [e]

def HandleIs (w : World) : Prop := w.cell? ⟨0, 0, none⟩ = some (.iface 154 (.agg #[.pointer (some ⟨8, 35, none⟩)]))

set_option maxHeartbeats 4000000 in
set_option maxRecDepth 100000 in
theorem As_f (code ip : Int) (ws : List ByteArray) (v : Value) (t : Nat) (w : World) (H : ErrIs w code ip ws v) (hg : HandleIs w) (ht : w.cell? ⟨t, 0, none⟩ = some (.pointer none)) (hf : w.frozen? ⟨t, 0, none⟩ = false) :
    Calls Tryd.prog 41 #[v, .iface 109 (.pointer (some ⟨t, 0, none⟩))] w
      fun e w' => e = .returned (.bool true) ∧ ∃ b w1, Below w.heap.size w w1 ∧ Blk w1 b 73 #[.int .i64 code, .int .i64 ip] ∧ w' = w1.setCell ⟨t, 0, none⟩ (.pointer (some ⟨b, 0, none⟩)) := by
  have h93 := @run_callFunc_extern Tryd.prog 93 _ (fun args => ReflectliteValue.unpack (args.getD 0 (.tuple #[]))) Tryd.func93 (by kernel_rfl) (by kernel_rfl) (by kernel_rfl) (by kernel_rfl)
  have h94 := @run_callFunc_extern Tryd.prog 94 _ (ReflectliteValue.methodAny (ReflectliteValue.valueError "reflectlite.Value.Type" 0) (fun t _ _ _ => ReflectliteType.toType t)) Tryd.func94 (by kernel_rfl) (by kernel_rfl) (by kernel_rfl) (by kernel_rfl)
  have h95 := @run_callFunc_extern Tryd.prog 95 _ (ReflectliteValue.method (ReflectliteValue.valueError "reflectlite.Value.IsNil" 0) ReflectliteValue.isNil) Tryd.func95 (by kernel_rfl) (by kernel_rfl) (by kernel_rfl) (by kernel_rfl)
  have h175 := @run_callFunc_extern Tryd.prog 175 _ (ReflectliteType.abiMethod fun t => do pure (.int .u8 (← Rtype.kind t))) Tryd.func175 (by kernel_rfl) (by kernel_rfl) (by kernel_rfl) (by kernel_rfl)
  have h189 := @run_callFunc_extern Tryd.prog 189 _ (ReflectliteType.method ReflectliteType.elem) Tryd.func189 (by kernel_rfl) (by kernel_rfl) (by kernel_rfl) (by kernel_rfl)
  have h190 := @run_callFunc_extern Tryd.prog 190 _ (ReflectliteType.relation "Implements" ReflectliteType.implements_) Tryd.func190 (by kernel_rfl) (by kernel_rfl) (by kernel_rfl) (by kernel_rfl)
  have f6 := valueOfPF
  have f7 := typePF
  have mK := mKind
  have mE := mElem
  have mI := mImplements
  have kP := kindPF
  have kF := kindF
  have eP := elemPF
  have iF := implementsF
  have htl : t < w.heap.size := by
    rcases Nat.lt_or_ge t w.heap.size with h | h
    · exact h
    · simp [World.cell?, Array.getElem?_eq_none h] at ht
  have hlt : 0 < w.heap.size := by
    unfold HandleIs at hg
    rcases Nat.lt_or_ge 0 w.heap.size with h | h
    · exact h
    · simp [World.cell?, Array.getElem?_eq_none h] at hg
  have n8 := isNilPF ⟨w.heap.size, 0, none⟩ ⟨t, 0, none⟩ ((w.alloc (.cells #[.pointer (some ⟨t, 0, none⟩)] 109)).alloc (.cells #[.pointer (some ⟨8, 109, none⟩), .pointer (some ⟨w.heap.size, 0, none⟩), .int .u64 150] 113)) (by simp)
  have hg2 : ((w.alloc (.cells #[.pointer (some ⟨t, 0, none⟩)] 109)).alloc (.cells #[.pointer (some ⟨8, 109, none⟩), .pointer (some ⟨w.heap.size, 0, none⟩), .int .u64 150] 113)).cell? ⟨0, 0, none⟩ = some (.iface 154 (.agg #[.pointer (some ⟨8, 35, none⟩)])) := by
    rw [World.cell?_alloc_lt _ _ ⟨0, 0, none⟩ (by simp), World.cell?_alloc_lt _ _ ⟨0, 0, none⟩ hlt]; exact hg
  have ba : Below w.heap.size w ((w.alloc (.cells #[.pointer (some ⟨t, 0, none⟩)] 109)).alloc (.cells #[.pointer (some ⟨8, 109, none⟩), .pointer (some ⟨w.heap.size, 0, none⟩), .int .u64 150] 113)) := ((Below.refl _ _).alloc (Nat.le_refl _) _).alloc (by simp) _
  have HA := Lib.hid (as_f code ip ws v t w.heap.size _ (H.below ba) ((ba.cell (p := ⟨t, 0, none⟩) htl).trans ht) (by rw [World.frozen?_alloc_old _ _ _ (by simp; omega), World.frozen?_alloc_old _ _ _ (Nat.ne_of_lt htl)]; exact hf) (by simp))
  have HB := Lib.hid ba
  obtain ⟨tv, pv, rfl⟩ := H.form
  clear H ba
  go_enter Tryd.func41, Tryd.ntmps41
  go_wp2_with fail
  refine HA.out.mono ?_
  rintro e w' ⟨rfl, b, w1, h1, h2, rfl⟩
  have H1 := Lib.hid (HB.out.trans (h1.mono HB.out.size))
  have H2 := Lib.hid h2
  clear h1 h2 HA
  go_wp2_with fail
  go_ret
  exact ⟨rfl, b, w1, H1.out, H2.out, rfl⟩

set_option maxHeartbeats 4000000 in
set_option maxRecDepth 100000 in
theorem As_s_miss (b t : Nat) (x0 : Value) (w : World) (hg : HandleIs w) (ht : w.cell? ⟨t, 0, none⟩ = some x0) (hf : w.frozen? ⟨t, 0, none⟩ = false) :
    Calls Tryd.prog 41 #[.iface 71 (.pointer (some ⟨b, 0, none⟩)), .iface 79 (.pointer (some ⟨t, 0, none⟩))] w
      fun e w' => e = .returned (.bool false) ∧ Below w.heap.size w w' := by
  have h93 := @run_callFunc_extern Tryd.prog 93 _ (fun args => ReflectliteValue.unpack (args.getD 0 (.tuple #[]))) Tryd.func93 (by kernel_rfl) (by kernel_rfl) (by kernel_rfl) (by kernel_rfl)
  have h94 := @run_callFunc_extern Tryd.prog 94 _ (ReflectliteValue.methodAny (ReflectliteValue.valueError "reflectlite.Value.Type" 0) (fun t _ _ _ => ReflectliteType.toType t)) Tryd.func94 (by kernel_rfl) (by kernel_rfl) (by kernel_rfl) (by kernel_rfl)
  have h95 := @run_callFunc_extern Tryd.prog 95 _ (ReflectliteValue.method (ReflectliteValue.valueError "reflectlite.Value.IsNil" 0) ReflectliteValue.isNil) Tryd.func95 (by kernel_rfl) (by kernel_rfl) (by kernel_rfl) (by kernel_rfl)
  have h175 := @run_callFunc_extern Tryd.prog 175 _ (ReflectliteType.abiMethod fun t => do pure (.int .u8 (← Rtype.kind t))) Tryd.func175 (by kernel_rfl) (by kernel_rfl) (by kernel_rfl) (by kernel_rfl)
  have h189 := @run_callFunc_extern Tryd.prog 189 _ (ReflectliteType.method ReflectliteType.elem) Tryd.func189 (by kernel_rfl) (by kernel_rfl) (by kernel_rfl) (by kernel_rfl)
  have h190 := @run_callFunc_extern Tryd.prog 190 _ (ReflectliteType.relation "Implements" ReflectliteType.implements_) Tryd.func190 (by kernel_rfl) (by kernel_rfl) (by kernel_rfl) (by kernel_rfl)
  have f6 := valueOfPS
  have f7 := typePS
  have mK := mKind
  have mE := mElem
  have mI := mImplements
  have kP := kindPS
  have kF := kindS
  have eP := elemPS
  have iF := implementsS
  have htl : t < w.heap.size := by
    rcases Nat.lt_or_ge t w.heap.size with h | h
    · exact h
    · simp [World.cell?, Array.getElem?_eq_none h] at ht
  have hlt : 0 < w.heap.size := by
    unfold HandleIs at hg
    rcases Nat.lt_or_ge 0 w.heap.size with h | h
    · exact h
    · simp [World.cell?, Array.getElem?_eq_none h] at hg
  have n8 := isNilPS ⟨w.heap.size, 0, none⟩ ⟨t, 0, none⟩ ((w.alloc (.cells #[.pointer (some ⟨t, 0, none⟩)] 79)).alloc (.cells #[.pointer (some ⟨8, 79, none⟩), .pointer (some ⟨w.heap.size, 0, none⟩), .int .u64 150] 113)) (by simp)
  have hg2 : ((w.alloc (.cells #[.pointer (some ⟨t, 0, none⟩)] 79)).alloc (.cells #[.pointer (some ⟨8, 79, none⟩), .pointer (some ⟨w.heap.size, 0, none⟩), .int .u64 150] 113)).cell? ⟨0, 0, none⟩ = some (.iface 154 (.agg #[.pointer (some ⟨8, 35, none⟩)])) := by
    rw [World.cell?_alloc_lt _ _ ⟨0, 0, none⟩ (by simp), World.cell?_alloc_lt _ _ ⟨0, 0, none⟩ hlt]; exact hg
  have ba : Below w.heap.size w ((w.alloc (.cells #[.pointer (some ⟨t, 0, none⟩)] 79)).alloc (.cells #[.pointer (some ⟨8, 79, none⟩), .pointer (some ⟨w.heap.size, 0, none⟩), .int .u64 150] 113)) := ((Below.refl _ _).alloc (Nat.le_refl _) _).alloc (by simp) _
  have HA := Lib.hid (as_s_miss b t w.heap.size ((w.alloc (.cells #[.pointer (some ⟨t, 0, none⟩)] 79)).alloc (.cells #[.pointer (some ⟨8, 79, none⟩), .pointer (some ⟨w.heap.size, 0, none⟩), .int .u64 150] 113)))
  have HB := Lib.hid ba
  clear ba
  go_enter Tryd.func41, Tryd.ntmps41
  go_wp2_with fail
  refine HA.out.mono ?_
  rintro e w' ⟨rfl, h1⟩
  have H1 := Lib.hid (HB.out.trans (h1.mono HB.out.size))
  clear h1 HA
  go_wp2_with fail
  go_ret
  exact ⟨rfl, H1.out⟩


set_option maxHeartbeats 4000000 in
set_option maxRecDepth 100000 in
theorem As_s_hit (b t : Nat) (x0 : Value) (w : World) (hg : HandleIs w) (ht : w.cell? ⟨t, 0, none⟩ = some x0) (hf : w.frozen? ⟨t, 0, none⟩ = false) :
    Calls Tryd.prog 41 #[.iface 74 (.pointer (some ⟨b, 0, none⟩)), .iface 79 (.pointer (some ⟨t, 0, none⟩))] w
      fun e w' => e = .returned (.bool true) ∧ Below w.heap.size (w.setCell ⟨t, 0, none⟩ (.pointer (some ⟨b, 0, none⟩))) w' := by
  have h93 := @run_callFunc_extern Tryd.prog 93 _ (fun args => ReflectliteValue.unpack (args.getD 0 (.tuple #[]))) Tryd.func93 (by kernel_rfl) (by kernel_rfl) (by kernel_rfl) (by kernel_rfl)
  have h94 := @run_callFunc_extern Tryd.prog 94 _ (ReflectliteValue.methodAny (ReflectliteValue.valueError "reflectlite.Value.Type" 0) (fun t _ _ _ => ReflectliteType.toType t)) Tryd.func94 (by kernel_rfl) (by kernel_rfl) (by kernel_rfl) (by kernel_rfl)
  have h95 := @run_callFunc_extern Tryd.prog 95 _ (ReflectliteValue.method (ReflectliteValue.valueError "reflectlite.Value.IsNil" 0) ReflectliteValue.isNil) Tryd.func95 (by kernel_rfl) (by kernel_rfl) (by kernel_rfl) (by kernel_rfl)
  have h175 := @run_callFunc_extern Tryd.prog 175 _ (ReflectliteType.abiMethod fun t => do pure (.int .u8 (← Rtype.kind t))) Tryd.func175 (by kernel_rfl) (by kernel_rfl) (by kernel_rfl) (by kernel_rfl)
  have h189 := @run_callFunc_extern Tryd.prog 189 _ (ReflectliteType.method ReflectliteType.elem) Tryd.func189 (by kernel_rfl) (by kernel_rfl) (by kernel_rfl) (by kernel_rfl)
  have h190 := @run_callFunc_extern Tryd.prog 190 _ (ReflectliteType.relation "Implements" ReflectliteType.implements_) Tryd.func190 (by kernel_rfl) (by kernel_rfl) (by kernel_rfl) (by kernel_rfl)
  have f6 := valueOfPS
  have f7 := typePS
  have mK := mKind
  have mE := mElem
  have mI := mImplements
  have kP := kindPS
  have kF := kindS
  have eP := elemPS
  have iF := implementsS
  have htl : t < w.heap.size := by
    rcases Nat.lt_or_ge t w.heap.size with h | h
    · exact h
    · simp [World.cell?, Array.getElem?_eq_none h] at ht
  have hlt : 0 < w.heap.size := by
    unfold HandleIs at hg
    rcases Nat.lt_or_ge 0 w.heap.size with h | h
    · exact h
    · simp [World.cell?, Array.getElem?_eq_none h] at hg
  have n8 := isNilPS ⟨w.heap.size, 0, none⟩ ⟨t, 0, none⟩ ((w.alloc (.cells #[.pointer (some ⟨t, 0, none⟩)] 79)).alloc (.cells #[.pointer (some ⟨8, 79, none⟩), .pointer (some ⟨w.heap.size, 0, none⟩), .int .u64 150] 113)) (by simp)
  have hg2 : ((w.alloc (.cells #[.pointer (some ⟨t, 0, none⟩)] 79)).alloc (.cells #[.pointer (some ⟨8, 79, none⟩), .pointer (some ⟨w.heap.size, 0, none⟩), .int .u64 150] 113)).cell? ⟨0, 0, none⟩ = some (.iface 154 (.agg #[.pointer (some ⟨8, 35, none⟩)])) := by
    rw [World.cell?_alloc_lt _ _ ⟨0, 0, none⟩ (by simp), World.cell?_alloc_lt _ _ ⟨0, 0, none⟩ hlt]; exact hg
  have ba : Below w.heap.size w ((w.alloc (.cells #[.pointer (some ⟨t, 0, none⟩)] 79)).alloc (.cells #[.pointer (some ⟨8, 79, none⟩), .pointer (some ⟨w.heap.size, 0, none⟩), .int .u64 150] 113)) := ((Below.refl _ _).alloc (Nat.le_refl _) _).alloc (by simp) _
  have HA := Lib.hid (as_s_hit b t w.heap.size x0 _ ((ba.cell (p := ⟨t, 0, none⟩) htl).trans ht) (by rw [World.frozen?_alloc_old _ _ _ (by simp; omega), World.frozen?_alloc_old _ _ _ (Nat.ne_of_lt htl)]; exact hf) (by simp))
  have HB := Lib.hid ba
  have HS := Lib.hid (below_set ba t htl (.pointer (some ⟨b, 0, none⟩)))
  clear ba
  go_enter Tryd.func41, Tryd.ntmps41
  go_wp2_with fail
  refine HA.out.mono ?_
  rintro e w' ⟨rfl, h1⟩
  have H1 := Lib.hid h1
  clear h1 HA
  go_wp2_with fail
  go_ret
  exact ⟨rfl, HS.out.trans (H1.out.mono (by have := HB.out.size; simp; omega))⟩

end Go.Proofs.YtcfkhbkhejaegaaDoor.Ft
