/-
  Chapter 2 (fault): a fault's text, the methods Error.
-/
import Derived.Test.YtcfkhbkhejaegaaDoorFtH
import Derived.Deep.RegionHeld3
namespace Go.Proofs.YtcfkhbkhejaegaaDoor.Ft
open Go.RowKit Go.Extern.Stop Go.Stop Go.Extern

/-- What a fault that is seen from words tells. -/
def errB (code ip : Int) : List ByteArray → ByteArray
  | [] => (⟨(textV code).toArray⟩ ++ ⟨#[32, 97, 116, 32]⟩) ++ ⟨(Lib.itoa ip).toArray⟩
  | s :: r => (s ++ ⟨#[58, 32]⟩) ++ errB code ip r

/-- Text at this code and Itoa at this place answer, here and later. -/
structure Ok (code ip : Int) (w : World) : Prop where
  text : ∀ W, Below w.heap.size w W → Calls Tryd.prog 19 #[.int .i64 code] W fun e w' => e = .returned (.string ⟨(textV code).toArray⟩) ∧ Below W.heap.size W w'
  itoa : ∀ W, Below w.heap.size w W → Calls Tryd.prog 39 #[.int .i64 ip] W fun e w' => e = .returned (.string ⟨(Lib.itoa ip).toArray⟩) ∧ Below W.heap.size W w'
  tl : (textV code).length ≤ 40
  il : (Lib.itoa ip).length ≤ 21
theorem Ok.below {code ip : Int} {w w' : World} (h : Ok code ip w) (hb : Below w.heap.size w w') : Ok code ip w' :=
  ⟨fun W hW => h.text W (hb.trans (hW.mono hb.size)), fun W hW => h.itoa W (hb.trans (hW.mono hb.size)), h.tl, h.il⟩
theorem Ok.drew {code ip : Int} {w : World} (h : Ok code ip w) : Ok code ip w.drew := h.below (below_of_draw (Below.refl _ _) 1)
theorem St.ok {w : World} (h : St w) {code ip : Int} (a1 : -9223372036854775808 ≤ code) (a2 : code ≤ 9223372036854775807) (b1 : -9223372036854775808 ≤ ip) (b2 : ip ≤ 9223372036854775807) : Ok code ip w :=
  ⟨fun W hW => text_any code a1 a2 W (h.below hW), fun W hW => itoa_any ip b1 b2 W (h.below hW), textV_len code a1 a2, Lib.itoa_length_le ip b1 b2⟩

set_option maxHeartbeats 2000000 in
set_option maxRecDepth 100000 in
theorem ferr_any (code ip : Int) (b : Nat) (w : World) (hb : Blk w b 73 #[.int .i64 code, .int .i64 ip]) (hs : Ok code ip w) :
    Calls Tryd.prog 178 #[.pointer (some ⟨b, 0, none⟩)] w fun e w' => e = .returned (.string (errB code ip [])) ∧ Below w.heap.size w w' := by
  have l1 := hs.tl
  have l2 := hs.il
  have c0 : w.cell? ⟨b, 0, none⟩ = some (.int .i64 code) := hb.cell 0
  have c1 : w.cell? ⟨b, 1, none⟩ = some (.int .i64 ip) := hb.cell 1
  have ad1 : ∀ W, (Op.stringOp .add ⟨(textV code).toArray⟩ ⟨#[32, 97, 116, 32]⟩).run Tryd.prog W = .ok (.string (⟨(textV code).toArray⟩ ++ ⟨#[32, 97, 116, 32]⟩)) W := fun W => run_string_add W _ _ (by simp [ByteArray.size]; omega) (by simp [ByteArray.size])
  have ad2 : ∀ W, (Op.stringOp .add (⟨(textV code).toArray⟩ ++ ⟨#[32, 97, 116, 32]⟩) ⟨(Lib.itoa ip).toArray⟩).run Tryd.prog W = .ok (.string (errB code ip [])) W := fun W => run_string_add W _ _ (by rw [ByteArray.size_append]; simp [ByteArray.size]; omega) (by simp [ByteArray.size]; omega)
  have hT := hs.drew.text w.drew (Below.refl _ _)
  have HC := Lib.hid (hT.mono (fun e w2 (h : e = .returned (.string ⟨(textV code).toArray⟩) ∧ Below w.drew.heap.size w.drew w2) =>
    (⟨h.1, (h.2.cell (p := ⟨b, 0, none⟩) hb.lt).trans c0, (h.2.cell (p := ⟨b, 1, none⟩) hb.lt).trans c1,
      (hs.drew.itoa w2 h.2).mono (fun e3 w3 h3 => (⟨h3.1, ((h.2.trans (h3.2.mono h.2.size)).cell (p := ⟨b, 0, none⟩) hb.lt).trans c0, ((h.2.trans (h3.2.mono h.2.size)).cell (p := ⟨b, 1, none⟩) hb.lt).trans c1, (h.2.trans (h3.2.mono h.2.size))⟩ :
        e3 = .returned (.string ⟨(Lib.itoa ip).toArray⟩) ∧ w3.cell? ⟨b, 0, none⟩ = some (.int .i64 code) ∧ w3.cell? ⟨b, 1, none⟩ = some (.int .i64 ip) ∧ Below w.drew.heap.size w.drew w3))⟩ :
      e = .returned (.string ⟨(textV code).toArray⟩) ∧ w2.cell? ⟨b, 0, none⟩ = some (.int .i64 code) ∧ w2.cell? ⟨b, 1, none⟩ = some (.int .i64 ip) ∧
        Calls Tryd.prog 39 #[.int .i64 ip] w2 fun e3 w3 => e3 = .returned (.string ⟨(Lib.itoa ip).toArray⟩) ∧ w3.cell? ⟨b, 0, none⟩ = some (.int .i64 code) ∧ w3.cell? ⟨b, 1, none⟩ = some (.int .i64 ip) ∧ Below w.drew.heap.size w.drew w3)))
  clear hT hs hb l1 l2
  go_enter Tryd.func178, Tryd.ntmps178
  go_wp2_with fail
  go_region_held3 (fun W => W.cell? ⟨b, 0, none⟩ = some (.int .i64 code) ∧ W.cell? ⟨b, 1, none⟩ = some (.int .i64 ip)) (first | exact ⟨c0, c1⟩ | exact ⟨d0, d1⟩ | exact ⟨f0, f1⟩)
    (first
    | (go_at_call 19; refine HC.out.mono ?_; rintro e w2 ⟨rfl, d0, d1, hI⟩)
    | (go_at_call 39; refine hI.mono ?_; rintro e w3 ⟨rfl, f0, f1, hB⟩))
  all_goals
    go_wp2_with fail
    go_ret
    exact ⟨rfl, ⟨hB.os, hB.tape, hB.output, hB.size, hB.block⟩⟩

/-- The method Error of a fault, by the words that it is seen from. -/
def errFn : List ByteArray → FuncId
  | [] => 178
  | _ :: _ => 180
def errTy : List ByteArray → TypeId
  | [] => 71
  | _ :: _ => 74
theorem ErrIs.ty {w : World} {code ip : Int} : ∀ {ws : List ByteArray} {v : Value}, ErrIs w code ip ws v → ∃ b, v = .iface (errTy ws) (.pointer (some ⟨b, 0, none⟩)) ∧ b < w.heap.size
  | [], _, ⟨b, h1, h2⟩ => ⟨b, h1, h2.lt⟩
  | _ :: _, _, ⟨b, _, h1, h2, _⟩ => ⟨b, h1, h2.lt⟩
theorem mError (l : List ByteArray) (p : Addr) (w : World) : (Go.method 340 (errTy l) (.pointer (some p)) "Error").run Tryd.prog w = .ok (errFn l, .pointer (some p)) w := by
  cases l with
  | nil => exact mErrorF p w
  | cons _ _ => exact mErrorS p w

theorem errFn_enters (l : List ByteArray) : ∀ (args : Array Value) (w : World), (callFunc (errFn l) args).run Tryd.prog w = .ok (.enter (errFn l) args) w := by
  cases l with
  | nil => exact fun args w => enters_of Tryd.func178 (by kernel_rfl) rfl args w
  | cons _ _ => exact fun args w => enters_of Tryd.func180 (by kernel_rfl) rfl args w

set_option maxHeartbeats 2000000 in
set_option maxRecDepth 100000 in
theorem serr_any (code ip : Int) (s : ByteArray) (r : List ByteArray) (hsz : (errB code ip (s :: r)).size ≤ 8388608) (b bu : Nat) (w : World) (hb : Blk w b 76 #[.string s, .iface (errTy r) (.pointer (some ⟨bu, 0, none⟩))])
    (hR : Calls Tryd.prog (errFn r) #[.pointer (some ⟨bu, 0, none⟩)] w.drew fun e w' => e = .returned (.string (errB code ip r)) ∧ Below w.heap.size w w') :
    Calls Tryd.prog 180 #[.pointer (some ⟨b, 0, none⟩)] w fun e w' => e = .returned (.string (errB code ip (s :: r))) ∧ Below w.heap.size w w' := by
  have hsz2 : s.size + 2 + (errB code ip r).size ≤ 8388608 := by
    have : (errB code ip (s :: r)).size = s.size + 2 + (errB code ip r).size := by
      show ((s ++ (⟨#[58, 32]⟩ : ByteArray)) ++ errB code ip r).size = _
      rw [ByteArray.size_append, ByteArray.size_append]; rfl
    omega
  have ad1 : ∀ W, (Op.stringOp .add s ⟨#[58, 32]⟩).run Tryd.prog W = .ok (.string (s ++ ⟨#[58, 32]⟩)) W := fun W => run_string_add W _ _ (by omega) (by simp [ByteArray.size])
  have ad2 : ∀ W, (Op.stringOp .add (s ++ ⟨#[58, 32]⟩) (errB code ip r)).run Tryd.prog W = .ok (.string (errB code ip (s :: r))) W := fun W => run_string_add W _ _ (by rw [ByteArray.size_append]; have : (⟨#[58, 32]⟩ : ByteArray).size = 2 := rfl; omega) (by omega)
  have c0 : w.cell? ⟨b, 0, none⟩ = some (.string s) := hb.cell 0
  have c1 : w.cell? ⟨b, 1, none⟩ = some (.iface (errTy r) (.pointer (some ⟨bu, 0, none⟩))) := hb.cell 1
  have mE := mError r
  have hE := errFn_enters r
  have HC := Lib.hid (hR.mono (fun e w2 (h : e = .returned (.string (errB code ip r)) ∧ Below w.heap.size w w2) => (⟨h.1, (h.2.cell (p := ⟨b, 0, none⟩) hb.lt).trans c0, (h.2.cell (p := ⟨b, 1, none⟩) hb.lt).trans c1, h.2⟩ :
      e = .returned (.string (errB code ip r)) ∧ w2.cell? ⟨b, 0, none⟩ = some (.string s) ∧ w2.cell? ⟨b, 1, none⟩ = some (.iface (errTy r) (.pointer (some ⟨bu, 0, none⟩))) ∧ Below w.heap.size w w2)))
  clear hR hb hsz hsz2
  generalize errTy r = ty at *
  generalize errFn r = fn at *
  generalize errB code ip (s :: r) = out at *
  generalize errB code ip r = mid at *
  go_enter Tryd.func180, Tryd.ntmps180
  go_wp2_with fail
  go_region_held3 (fun W => W.cell? ⟨b, 0, none⟩ = some (.string s) ∧ W.cell? ⟨b, 1, none⟩ = some (.iface ty (.pointer (some ⟨bu, 0, none⟩)))) (first | exact ⟨c0, c1⟩ | exact ⟨d0, d1⟩)
    (first
    | (refine HC.out.mono ?_; rintro e w2 ⟨rfl, d0, d1, hB⟩))
  all_goals
    go_wp2_with fail
    go_ret
    exact ⟨rfl, hB⟩
end Go.Proofs.YtcfkhbkhejaegaaDoor.Ft
