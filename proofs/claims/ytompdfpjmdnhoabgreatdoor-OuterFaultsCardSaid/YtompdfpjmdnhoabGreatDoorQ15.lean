/-
  Lemmas on the way, for every input that they name: FtB, FtC, FtD, FtE, FtF.
-/
import Derived.Deep.LoopGhost
import Derived.Deep.DeepCutAuto
import Derived.Deep.CutBlock
import Derived.BigQuiet
import Derived.Test.YtompdfpjmdnhoabGreatDoorQ14
set_option linter.unusedVariables false
set_option linter.unusedSimpArgs false
set_option linter.deprecated false
namespace Go.Proofs.YtompdfpjmdnhoabGreatDoor.Ft
open Go.RowKit Go.Extern.Stop Go.Stop Go.Extern
def ErrIs (w : World) (code ip : Int) : List ByteArray → Value → Prop
  | [], v => ∃ b, v = .iface 135 (.pointer (some ⟨b, 0, none⟩)) ∧ Blk w b 110 #[.int .i64 code, .int .i64 ip]
  | s :: r, v => ∃ b u, v = .iface 132 (.pointer (some ⟨b, 0, none⟩)) ∧ Blk w b 134 #[.string s, u] ∧ ErrIs w code ip r u
theorem ErrIs.below {w w' : World} {code ip : Int} (hb : Below w.heap.size w w') : ∀ {ws : List ByteArray} {v : Value}, ErrIs w code ip ws v → ErrIs w' code ip ws v
  | [], _, ⟨b, h1, h2⟩ => ⟨b, h1, h2.below hb h2.lt⟩
  | _ :: _, _, ⟨b, u, h1, h2, h3⟩ => ⟨b, u, h1, h2.below hb h2.lt, ErrIs.below hb h3⟩
theorem unwrap_any (b : Nat) (s : ByteArray) (u : Value) (w : World) (hb : Blk w b 134 #[.string s, u]) :
    Calls Tryz.prog 189 #[.pointer (some ⟨b, 0, none⟩)] w fun e w' => e = .returned u ∧ w = w' := by
  have c1 : w.cell? ⟨b, 1, none⟩ = some u := hb.cell 1
  go_enter Tryz.func189, Tryz.ntmps189
  go_wp2_with fail
  go_ret
  exact ⟨rfl, rfl⟩
theorem ErrIs.form {w : World} {code ip : Int} : ∀ {ws : List ByteArray} {v : Value}, ErrIs w code ip ws v → ∃ t p, v = .iface t p
  | [], _, ⟨_, h1, _⟩ => ⟨_, _, h1⟩
  | _ :: _, _, ⟨_, _, h1, _, _⟩ => ⟨_, _, h1⟩
set_option maxHeartbeats 4000000 in
set_option maxRecDepth 100000 in
theorem as_f (code ip : Int) (ws : List ByteArray) (v : Value) (t a : Nat) (w : World) (H : ErrIs w code ip ws v) (ht : w.cell? ⟨t, 0, none⟩ = some (.pointer none)) (hf : w.frozen? ⟨t, 0, none⟩ = false)
    (ha : w.cell? ⟨a, 0, none⟩ = some (.pointer (some ⟨t, 0, none⟩))) :
    Calls Tryz.prog 142 #[v, .iface 137 (.pointer (some ⟨t, 0, none⟩)), .agg #[.pointer (some ⟨5, 137, none⟩), .pointer (some ⟨a, 0, none⟩), .int .u64 150], .iface 176 (.agg #[.pointer (some ⟨5, 135, none⟩)])] w
      fun e w' => e = .returned (.bool true) ∧ ∃ b w1, Below w.heap.size w w1 ∧ Blk w1 b 110 #[.int .i64 code, .int .i64 ip] ∧ w' = w1.setCell ⟨t, 0, none⟩ (.pointer (some ⟨b, 0, none⟩)) := by
  have h97 := @run_callFunc_extern Tryz.prog 157 _ ReflectliteType.typeOf Tryz.func157 (by kernel_rfl) (by kernel_rfl) (by kernel_rfl) (by kernel_rfl)
  have h187 := @run_callFunc_extern Tryz.prog 195 _ (ReflectliteType.relation "AssignableTo" ReflectliteType.assignableTo) Tryz.func195 (by kernel_rfl) (by kernel_rfl) (by kernel_rfl) (by kernel_rfl)
  have h125 := @run_callFunc_extern Tryz.prog 158 _ (ReflectliteValue.method (ReflectliteValue.valueError "reflectlite.Value.Elem" 0) ReflectliteValue.elem) Tryz.func158 (by kernel_rfl) (by kernel_rfl) (by kernel_rfl) (by kernel_rfl)
  have h126 := @run_callFunc_extern Tryz.prog 159 _ ReflectliteValue.set Tryz.func159 (by kernel_rfl) (by kernel_rfl) (by kernel_rfl) (by kernel_rfl)
  have h93 := @run_callFunc_extern Tryz.prog 139 _ (fun args => ReflectliteValue.unpack (args.getD 0 (.tuple #[]))) Tryz.func139 (by kernel_rfl) (by kernel_rfl) (by kernel_rfl) (by kernel_rfl)
  have tF := typeOfF
  have tS := typeOfS
  have aF := assignFF
  have aS := assignSF
  have vF := valueOfF
  have mA := mAssignableTo
  have mU := mUnwrapS
  have x1 := taAsS
  have x2 := taUnwrapS
  have HH := Lib.hid H
  have htl : t < w.heap.size := by
    rcases Nat.lt_or_ge t w.heap.size with h | h
    · exact h
    · simp [World.cell?, Array.getElem?_eq_none h] at ht
  have hal : a < w.heap.size := by
    rcases Nat.lt_or_ge a w.heap.size with h | h
    · exact h
    · simp [World.cell?, Array.getElem?_eq_none h] at ha
  clear H
  go_enter Tryz.func142, Tryz.ntmps142
  go_wp2_with fail
  go_loopg [0] ws.length (fun g ve wr => ∃ (l : List ByteArray), g = l.length ∧ Hid (ErrIs wr code ip l ve) ∧ Hid (Blk wr w.heap.size 152 #[.pointer (some ⟨5, 137, none⟩), .pointer (some ⟨a, 0, none⟩), .int .u64 150]) ∧ Hid (Below w.heap.size w wr))
  case atStart => exact ⟨ws, rfl, HH.out.below ((Below.refl _ _).alloc (Nat.le_refl _) _), Blk.new _ _ _, (Below.refl _ _).alloc (Nat.le_refl _) _⟩
  case round =>
    obtain ⟨l, hg, HE, HK, HB⟩ := hrel
    have Hg := Lib.hid hg
    clear hg HH
    have k0 := HK.out.cell 0
    have k1 := HK.out.cell 1
    have k2 := HK.out.cell 2
    have ht2 : wr.cell? ⟨t, 0, none⟩ = some (.pointer none) := (HB.out.cell (p := ⟨t, 0, none⟩) htl).trans ht
    have hf2 : wr.frozen? ⟨t, 0, none⟩ = false := by have := HB.out.block t htl; simp only [World.frozen?] at hf ⊢; rw [this]; exact hf
    have ha2 : wr.cell? ⟨a, 0, none⟩ = some (.pointer (some ⟨t, 0, none⟩)) := (HB.out.cell (p := ⟨a, 0, none⟩) hal).trans ha
    cases l with
    | nil =>
      obtain ⟨b, rfl, hb⟩ := HE.out
      have el := elemVPF ⟨a, 0, none⟩ ⟨t, 0, none⟩ wr ha2
      have hsz : w.heap.size ≤ wr.heap.size := HB.out.size
      have st := setF ⟨t, 0, none⟩ ⟨wr.heap.size, 0, none⟩ ⟨b, 0, none⟩ (.pointer none) (wr.alloc (.cells #[.pointer (some ⟨b, 0, none⟩)] 135)) (by simp) ((World.cell?_alloc_lt _ _ _ (Nat.lt_of_lt_of_le htl hsz)).trans ht2) ((World.frozen?_alloc_old _ _ ⟨t, 0, none⟩ (by show t ≠ wr.heap.size; omega)).trans hf2)
      go_wp2_with fail
      go_ret
      exact ⟨rfl, b, _, HB.out.alloc hsz _, hb.alloc _, rfl⟩
    | cons s r =>
      obtain ⟨b, u, rfl, hb, hr⟩ := HE.out
      obtain ⟨tu, pu, rfl⟩ := hr.form
      have HU := Lib.hid (unwrap_any b s _ wr hb)
      have HR := Lib.hid hr
      clear hr HE
      go_wp2_with fail
      refine HU.out.mono ?_
      rintro e w' ⟨rfl, rfl⟩
      go_wp2_with fail
      go_roundg r.length
      case rel => exact ⟨r, rfl, HR, HK, HB⟩
      case measure => rw [Hg.out]; exact Nat.lt_succ_self _
end Go.Proofs.YtompdfpjmdnhoabGreatDoor.Ft
namespace Go.Proofs.YtompdfpjmdnhoabGreatDoor.Ft
open Go.RowKit Go.Extern.Stop Go.Stop Go.Extern
def HandleIs (w : World) : Prop := w.cell? ⟨0, 0, none⟩ = some (.iface 176 (.agg #[.pointer (some ⟨5, 86, none⟩)]))
set_option maxHeartbeats 4000000 in
set_option maxRecDepth 100000 in
theorem As_f (code ip : Int) (ws : List ByteArray) (v : Value) (t : Nat) (w : World) (H : ErrIs w code ip ws v) (hg : HandleIs w) (ht : w.cell? ⟨t, 0, none⟩ = some (.pointer none)) (hf : w.frozen? ⟨t, 0, none⟩ = false) :
    Calls Tryz.prog 108 #[v, .iface 137 (.pointer (some ⟨t, 0, none⟩))] w
      fun e w' => e = .returned (.bool true) ∧ ∃ b w1, Below w.heap.size w w1 ∧ Blk w1 b 110 #[.int .i64 code, .int .i64 ip] ∧ w' = w1.setCell ⟨t, 0, none⟩ (.pointer (some ⟨b, 0, none⟩)) := by
  have h93 := @run_callFunc_extern Tryz.prog 139 _ (fun args => ReflectliteValue.unpack (args.getD 0 (.tuple #[]))) Tryz.func139 (by kernel_rfl) (by kernel_rfl) (by kernel_rfl) (by kernel_rfl)
  have h94 := @run_callFunc_extern Tryz.prog 140 _ (ReflectliteValue.methodAny (ReflectliteValue.valueError "reflectlite.Value.Type" 0) (fun t _ _ _ => ReflectliteType.toType t)) Tryz.func140 (by kernel_rfl) (by kernel_rfl) (by kernel_rfl) (by kernel_rfl)
  have h95 := @run_callFunc_extern Tryz.prog 141 _ (ReflectliteValue.method (ReflectliteValue.valueError "reflectlite.Value.IsNil" 0) ReflectliteValue.isNil) Tryz.func141 (by kernel_rfl) (by kernel_rfl) (by kernel_rfl) (by kernel_rfl)
  have h175 := @run_callFunc_extern Tryz.prog 183 _ (ReflectliteType.abiMethod fun t => do pure (.int .u8 (← Rtype.kind t))) Tryz.func183 (by kernel_rfl) (by kernel_rfl) (by kernel_rfl) (by kernel_rfl)
  have h189 := @run_callFunc_extern Tryz.prog 197 _ (ReflectliteType.method ReflectliteType.elem) Tryz.func197 (by kernel_rfl) (by kernel_rfl) (by kernel_rfl) (by kernel_rfl)
  have h190 := @run_callFunc_extern Tryz.prog 198 _ (ReflectliteType.relation "Implements" ReflectliteType.implements_) Tryz.func198 (by kernel_rfl) (by kernel_rfl) (by kernel_rfl) (by kernel_rfl)
  have f6 := valueOfPF
  have f7 := typePF
  have mK := mKind
  have mE := mElem
  have mI := mImplements
  have kP := kindPF
  have kF := kindF
  have eP := elemPF
  have iF := implementsF
  have htl : t < w.heap.size := by
    rcases Nat.lt_or_ge t w.heap.size with h | h
    · exact h
    · simp [World.cell?, Array.getElem?_eq_none h] at ht
  have hlt : 0 < w.heap.size := by
    unfold HandleIs at hg
    rcases Nat.lt_or_ge 0 w.heap.size with h | h
    · exact h
    · simp [World.cell?, Array.getElem?_eq_none h] at hg
  have n8 := isNilPF ⟨w.heap.size, 0, none⟩ ⟨t, 0, none⟩ ((w.alloc (.cells #[.pointer (some ⟨t, 0, none⟩)] 137)).alloc (.cells #[.pointer (some ⟨5, 137, none⟩), .pointer (some ⟨w.heap.size, 0, none⟩), .int .u64 150] 152)) (by simp)
  have hg2 : ((w.alloc (.cells #[.pointer (some ⟨t, 0, none⟩)] 137)).alloc (.cells #[.pointer (some ⟨5, 137, none⟩), .pointer (some ⟨w.heap.size, 0, none⟩), .int .u64 150] 152)).cell? ⟨0, 0, none⟩ = some (.iface 176 (.agg #[.pointer (some ⟨5, 86, none⟩)])) := by
    rw [World.cell?_alloc_lt _ _ ⟨0, 0, none⟩ (by simp), World.cell?_alloc_lt _ _ ⟨0, 0, none⟩ hlt]; exact hg
  have ba : Below w.heap.size w ((w.alloc (.cells #[.pointer (some ⟨t, 0, none⟩)] 137)).alloc (.cells #[.pointer (some ⟨5, 137, none⟩), .pointer (some ⟨w.heap.size, 0, none⟩), .int .u64 150] 152)) := ((Below.refl _ _).alloc (Nat.le_refl _) _).alloc (by simp) _
  have HA := Lib.hid (as_f code ip ws v t w.heap.size _ (H.below ba) ((ba.cell (p := ⟨t, 0, none⟩) htl).trans ht) (by rw [World.frozen?_alloc_old _ _ _ (by simp; omega), World.frozen?_alloc_old _ _ _ (Nat.ne_of_lt htl)]; exact hf) (by simp))
  have HB := Lib.hid ba
  obtain ⟨tv, pv, rfl⟩ := H.form
  clear H ba
  go_enter Tryz.func108, Tryz.ntmps108
  go_wp2_with fail
  refine HA.out.mono ?_
  rintro e w' ⟨rfl, b, w1, h1, h2, rfl⟩
  have H1 := Lib.hid (HB.out.trans (h1.mono HB.out.size))
  have H2 := Lib.hid h2
  clear h1 h2 HA
  go_wp2_with fail
  go_ret
  exact ⟨rfl, b, w1, H1.out, H2.out, rfl⟩
end Go.Proofs.YtompdfpjmdnhoabGreatDoor.Ft
namespace Go.Proofs.YtompdfpjmdnhoabGreatDoor.Ft
open Go.RowKit Go.Extern.Stop Go.Stop Go.Extern
theorem HandleIs.below {w w' : World} (h : HandleIs w) (hb : Below w.heap.size w w') : HandleIs w' := by
  have hlt : 0 < w.heap.size := by
    unfold HandleIs at h
    rcases Nat.lt_or_ge 0 w.heap.size with h' | h'
    · exact h'
    · simp [World.cell?, Array.getElem?_eq_none h'] at h
  exact (hb.cell (p := ⟨0, 0, none⟩) hlt).trans h
set_option maxHeartbeats 2000000 in
set_option maxRecDepth 100000 in
theorem inner_any (code ip : Int) (ws : List ByteArray) (v : Value) (w : World) (H : ErrIs w code ip ws v) (hg : HandleIs w) :
    Calls Tryz.prog 72 #[v] w fun e w' => e = .returned (.agg #[.int .i64 code, .int .i64 ip]) ∧ Below w.heap.size w w' := by
  have HH := Lib.hid H
  have HG := Lib.hid hg
  clear H hg
  go_enter Tryz.func72, Tryz.ntmps72
  have b0 : Below w.heap.size w ((w.alloc (.cells #[.int .i64 0, .int .i64 0] 110)).alloc (.cells #[.pointer none] 135)) := ((Below.refl _ _).alloc (Nat.le_refl _) _).alloc (by simp) _
  have HA := Lib.hid (As_f code ip ws v (w.heap.size + 1) _ (HH.out.below b0) (HG.out.below b0) (by simp) (by simp))
  have HB := Lib.hid b0
  clear b0
  go_wp2_with fail
  refine HA.out.mono ?_
  rintro e w' ⟨rfl, b, w1, h1, h2, rfl⟩
  have hsz := h1.size
  simp at hsz
  have k0 : w1.heap[w.heap.size]? = some (.cells #[.int .i64 0, .int .i64 0] 110 (0, 0)) := (h1.block w.heap.size (by simp; omega)).trans (by rw [Below.heap_alloc _ _ _ (by simp)]; exact heap_alloc_new w _)
  have k1 : Blk w1 (w.heap.size + 1) 135 #[.pointer none] := (h1.block (w.heap.size + 1) (by simp)).trans (by have := heap_alloc_new (w.alloc (.cells #[.int .i64 0, .int .i64 0] 110)) (.cells #[.pointer none] 135); simpa using this)
  have n1 : b ≠ w.heap.size + 1 := Blk.ne_ h2 k1 (by decide)
  have g1 : Blk (w1.setCell ⟨w.heap.size + 1, 0, none⟩ (.pointer (some ⟨b, 0, none⟩))) (w.heap.size + 1) 135 #[.pointer (some ⟨b, 0, none⟩)] := k1.set_ 0 _
  have g2 : Blk (w1.setCell ⟨w.heap.size + 1, 0, none⟩ (.pointer (some ⟨b, 0, none⟩))) b 110 #[.int .i64 code, .int .i64 ip] := h2.far (p := ⟨w.heap.size + 1, 0, none⟩) n1 _
  have g0 : Blk (w1.setCell ⟨w.heap.size + 1, 0, none⟩ (.pointer (some ⟨b, 0, none⟩))) w.heap.size 110 #[.int .i64 0, .int .i64 0] := Blk.far (p := ⟨w.heap.size + 1, 0, none⟩) (show Blk w1 w.heap.size _ _ from k0) (by simp) _
  have c1 : (w1.setCell ⟨w.heap.size + 1, 0, none⟩ (.pointer (some ⟨b, 0, none⟩))).cell? ⟨w.heap.size + 1, 0, none⟩ = some (.pointer (some ⟨b, 0, none⟩)) := g1.cell 0
  have c2 : (w1.setCell ⟨w.heap.size + 1, 0, none⟩ (.pointer (some ⟨b, 0, none⟩))).cell? ⟨b, 0, none⟩ = some (.int .i64 code) := g2.cell 0
  have c3 : (w1.setCell ⟨w.heap.size + 1, 0, none⟩ (.pointer (some ⟨b, 0, none⟩))).cell? ⟨b, 1, none⟩ = some (.int .i64 ip) := g2.cell 1
  have d0 : (w1.setCell ⟨w.heap.size + 1, 0, none⟩ (.pointer (some ⟨b, 0, none⟩))).cell? ⟨w.heap.size, 0, none⟩ = some (.int .i64 0) := g0.cell 0
  have d1 : (w1.setCell ⟨w.heap.size + 1, 0, none⟩ (.pointer (some ⟨b, 0, none⟩))).cell? ⟨w.heap.size, 1, none⟩ = some (.int .i64 0) := g0.cell 1
  have z0 : (w1.setCell ⟨w.heap.size + 1, 0, none⟩ (.pointer (some ⟨b, 0, none⟩))).frozen? ⟨w.heap.size, 0, none⟩ = false := g0.frozen 0
  have z1 : (w1.setCell ⟨w.heap.size + 1, 0, none⟩ (.pointer (some ⟨b, 0, none⟩))).frozen? ⟨w.heap.size, 1, none⟩ = false := g0.frozen 1
  have HW := Lib.hid ((HB.out.trans (h1.mono (by simp; omega))).setCell (p := ⟨w.heap.size + 1, 0, none⟩) (by simp) (.pointer (some ⟨b, 0, none⟩)))
  clear h1 h2 k0 k1 g1 g2 HA
  generalize w1.setCell ⟨w.heap.size + 1, 0, none⟩ (.pointer (some ⟨b, 0, none⟩)) = w2 at *
  go_wp2_with fail
  have g3 := (g0.set_ 0 (.int .i64 code)).set_ 1 (.int .i64 ip)
  have HW2 := Lib.hid ((HW.out.setCell (p := ⟨w.heap.size, 0, none⟩) (Nat.le_refl _) (.int .i64 code)).setCell (p := ⟨w.heap.size, 1, none⟩) (Nat.le_refl _) (.int .i64 ip))
  refine bodyPost_ret_by (v := .agg #[.int .i64 code, .int .i64 ip]) (results_cell_row (fn := Tryz.f72) (p := 2) (ty := 110) rfl _ _ w.heap.size 110 #[.int .i64 code, .int .i64 ip] (0, 0) _ rfl g3 Tryz.underlying110 rfl (by kernel_rfl)) rfl ?_
  exact ⟨rfl, HW2.out⟩
set_option maxRecDepth 100000 in
theorem code_any (code ip : Int) (ws : List ByteArray) (v : Value) (w : World) (H : ErrIs w code ip ws v) (hg : HandleIs w) :
    Calls Tryz.prog 47 #[v] w fun e w' => e = .returned (.int .i64 code) ∧ Below w.heap.size w w' := by
  have HI := Lib.hid (inner_any code ip ws v w H hg)
  clear H hg
  have fe : ∀ W, (Instr.field 110 (.agg #[.int .i64 code, .int .i64 ip]) 0).run Tryz.prog W = .ok (.int .i64 code) W := fun W => by kernel_rfl
  go_enter Tryz.func47, Tryz.ntmps47
  go_wp2_with fail
  refine HI.out.mono ?_
  rintro e w' ⟨rfl, hb⟩
  have HB := Lib.hid hb
  clear hb HI
  go_wp2_with fail
  go_ret
  exact ⟨rfl, HB.out⟩
end Go.Proofs.YtompdfpjmdnhoabGreatDoor.Ft
namespace Go.Proofs.YtompdfpjmdnhoabGreatDoor.Ft
open Go.RowKit Go.Extern.Stop Go.Stop Go.Extern
theorem ErrIs.lt {w : World} {code ip : Int} : ∀ {ws : List ByteArray} {v : Value}, ErrIs w code ip ws v → ∀ b, v = .iface 135 (.pointer (some ⟨b, 0, none⟩)) → b < w.heap.size
  | [], _, ⟨b, h1, h2⟩, b', h => by rw [h1] at h; injection h with _ h; injection h with h; injection h with h; injection h with h; subst h; exact h2.lt
  | _ :: _, _, ⟨_, _, h1, _, _⟩, _, h => by rw [h1] at h; injection h with h; exact absurd h (by decide)
theorem ErrIs.drewN {w : World} {code ip : Int} (m : Nat) : ∀ {ws : List ByteArray} {v : Value}, ErrIs w code ip ws v → ErrIs (w.drewN m) code ip ws v
  | [], _, h => h
  | _ :: _, _, ⟨b, u, h1, h2, h3⟩ => ⟨b, u, h1, h2, ErrIs.drewN m h3⟩
end Go.Proofs.YtompdfpjmdnhoabGreatDoor.Ft
namespace Go.Proofs.YtompdfpjmdnhoabGreatDoor.Ft
open Go.RowKit Go.Extern.Stop Go.Stop Go.Extern
set_option maxRecDepth 100000 in
theorem new_zero (ip : Int) (w : World) : Calls Tryz.prog 94 #[.int .i64 0, .int .i64 ip] w fun e w' => e = .returned .nilIface ∧ w = w' := by
  go_enter Tryz.func94, Tryz.ntmps94
  go_wp2_with fail
  go_ret
  exact ⟨rfl, rfl⟩
set_option maxRecDepth 100000 in
theorem new_any (code ip : Int) (hc : code ≠ 0) (w : World) : Calls Tryz.prog 94 #[.int .i64 code, .int .i64 ip] w fun e w' => ∃ v, e = .returned v ∧ ErrIs w' code ip [] v ∧ Below w.heap.size w w' := by
  have h0 : (code == 0) = false := by simpa using hc
  go_enter Tryz.func94, Tryz.ntmps94
  go_wp2_with fail
  go_ret
  exact ⟨_, rfl, ⟨_, rfl, Blk.new _ _ _⟩, (Below.refl _ _).alloc (Nat.le_refl _) _⟩
set_option maxRecDepth 100000 in
theorem wrap_any (code ip : Int) (ws : List ByteArray) (v : Value) (s : ByteArray) (w : World) (H : ErrIs w code ip ws v) :
    Calls Tryz.prog 70 #[v, .string s] w fun e w' => ∃ v', e = .returned v' ∧ ErrIs w' code ip (s :: ws) v' ∧ Below w.heap.size w w' := by
  have HH := Lib.hid H
  obtain ⟨tv, pv, rfl⟩ := H.form
  clear H
  go_enter Tryz.func70, Tryz.ntmps70
  go_wp2_with fail
  go_ret
  have hb : Below w.heap.size w (w.alloc (.cells #[.string s, .iface tv pv] 134)) := (Below.refl _ _).alloc (Nat.le_refl _) _
  exact ⟨_, rfl, ⟨_, _, rfl, Blk.new _ _ _, HH.out.below hb⟩, hb⟩
end Go.Proofs.YtompdfpjmdnhoabGreatDoor.Ft
