/-
  Lemmas on the way, for every input that they name: McM, McN.
-/
import Derived.Test.YtompdfpjmdnhoabGreatDoorQ21
import Derived.Test.YtompdfpjmdnhoabGreatDoorQ22
set_option linter.unusedVariables false
set_option linter.unusedSimpArgs false
set_option linter.deprecated false
namespace Go.Proofs.YtompdfpjmdnhoabGreatDoor.Mc
open Go.RowKit Go.Proofs.YtompdfpjmdnhoabGreatDoor.Rs Go.Proofs.YtompdfpjmdnhoabGreatDoor.Ft
theorem shuffle_any (c : Int) (hc : 6 ≤ c ∧ c ≤ 10) (B m : Nat) (sv bv mv : Value) (s : S) (w : World) (H : Held w B (mach m sv bv mv s false)) (hB : B ≤ w.heap.size) (W : Wf s) (hs : (moves c).1 ≤ s.stack.length) :
    Calls Tryz.prog 100 #[.pointer (some ⟨m, 0, none⟩), .int .i64 c] w fun e w' => e = .returned (.tuple #[]) ∧ Goes w B m sv bv mv s false (shuffle s c) false w' := by
  have hs2 := W.ns
  have : c = 6 ∨ c = 7 ∨ c = 8 ∨ c = 9 ∨ c = 10 := by omega
  rcases this with rfl | rfl | rfl | rfl | rfl
  · exact shuffle6 B m sv bv mv s false w H hB hs (by omega)
  · exact shuffle7 B m sv bv mv s false w H hB hs (by omega)
  · exact shuffle8 B m sv bv mv s false w H hB hs (by omega)
  · exact shuffle9 B m sv bv mv s false w H hB hs (by omega)
  · exact shuffle10 B m sv bv mv s false w H hB hs (by omega)
theorem backs_any (c : Int) (hc : (33 ≤ c ∧ c ≤ 36) ∨ c = 39 ∨ c = 40) (B m : Nat) (sv bv mv : Value) (s : S) (w : World) (H : Held w B (mach m sv bv mv s false)) (hB : B ≤ w.heap.size) (W : Wf s) (hs : (moves c).1 ≤ s.stack.length) (hb : (moves c).2.1 ≤ s.back.length) :
    Calls Tryz.prog 102 #[.pointer (some ⟨m, 0, none⟩), .int .i64 c] w fun e w' => e = .returned (.tuple #[]) ∧ Goes w B m sv bv mv s false (backs s c) false w' := by
  have hs2 := W.ns
  have hb2 := W.nb
  have : c = 33 ∨ c = 34 ∨ c = 35 ∨ c = 36 ∨ c = 39 ∨ c = 40 := by omega
  rcases this with rfl | rfl | rfl | rfl | rfl | rfl
  · exact backs33 B m sv bv mv s false w H hB hs (by omega) (by omega)
  · exact backs34 B m sv bv mv s false w H hB hb (by omega) (by omega)
  · exact backs35 B m sv bv mv s false w H hB hb (by omega) (by omega)
  · exact backs36 B m sv bv mv s false w H hB hs (by omega) (by omega)
  · exact backs39 B m sv bv mv s false w H hB hb (by omega) (by omega)
  · exact backs40 B m sv bv mv s false w H hB hb (by omega)
theorem ent_shuffle (xs : Array Value) (w : World) : (callFunc 100 xs).run Tryz.prog w = .ok (.enter 100 xs) w := enters_of Tryz.func100 (by kernel_rfl) rfl xs w
theorem ent_memory (xs : Array Value) (w : World) : (callFunc 101 xs).run Tryz.prog w = .ok (.enter 101 xs) w := enters_of Tryz.func101 (by kernel_rfl) rfl xs w
theorem ent_backs (xs : Array Value) (w : World) : (callFunc 102 xs).run Tryz.prog w = .ok (.enter 102 xs) w := enters_of Tryz.func102 (by kernel_rfl) rfl xs w
theorem ent_loop (xs : Array Value) (w : World) : (callFunc 103 xs).run Tryz.prog w = .ok (.enter 103 xs) w := enters_of Tryz.func103 (by kernel_rfl) rfl xs w
theorem ent_say (xs : Array Value) (w : World) : (callFunc 104 xs).run Tryz.prog w = .ok (.enter 104 xs) w := enters_of Tryz.func104 (by kernel_rfl) rfl xs w
theorem ent_key (xs : Array Value) (w : World) : (callFunc 105 xs).run Tryz.prog w = .ok (.enter 105 xs) w := enters_of Tryz.func105 (by kernel_rfl) rfl xs w
theorem ent_flow (xs : Array Value) (w : World) : (callFunc 106 xs).run Tryz.prog w = .ok (.enter 106 xs) w := enters_of Tryz.func106 (by kernel_rfl) rfl xs w
theorem ent_reckon (xs : Array Value) (w : World) : (callFunc 107 xs).run Tryz.prog w = .ok (.enter 107 xs) w := enters_of Tryz.func107 (by kernel_rfl) rfl xs w
set_option maxRecDepth 100000 in
theorem has_do : Tryz.f69.body.isSome = true := by kernel_rfl
theorem acts_ret {w w1 : World} {B m : Nat} {sv bv mv : Value} {s : S} {r : Rslt} {e : Ending} (h : Acts w B m sv bv mv s r e w1) : ∃ v, e = .returned v := by
  rcases acts_form h with rfl | ⟨T, p, rfl⟩ <;> exact ⟨_, rfl⟩
set_option maxRecDepth 100000 in
theorem at1 (arg was : Int) (m : Nat) : (Ff.start Tryz.f69 #[.pointer (some ⟨m, 0, none⟩), .int .i64 1, .int .i64 arg, .int .i64 was]).callee = some (106, #[.pointer (some ⟨m, 0, none⟩), .int .i64 1]) := by kernel_rfl
set_option maxRecDepth 100000 in
theorem un1 (arg was : Int) (m : Nat) (v : Value) : (Ff.next v (Ff.start Tryz.f69 #[.pointer (some ⟨m, 0, none⟩), .int .i64 1, .int .i64 arg, .int .i64 was])).out Tryz.f69 = some v := by kernel_rfl
theorem do1 (arg was : Int) (B m : Nat) (sv bv mv : Value) (s : S) (w : World) (H : Held w B (mach m sv bv mv s false)) (hB : B ≤ w.heap.size) (W : Wf s) (hs : (moves 1).1 ≤ s.stack.length) (hb : (moves 1).2.1 ≤ s.back.length) : Calls Tryz.prog 69 #[.pointer (some ⟨m, 0, none⟩), .int .i64 1, .int .i64 arg, .int .i64 was] w (Acts w B m sv bv mv s (act s 1 arg was)) := by
  have ha : act s 1 arg was = flow s 1 := rfl
  rw [ha]
  exact Ff.pass1 Tryz.func69 has_do (at1 arg was m) ent_flow (un1 arg was m) (flow_any 1 (by decide) B m sv bv mv s w H hB W hs) (fun _ _ h => acts_ret h)
set_option maxRecDepth 100000 in
theorem at6 (arg was : Int) (m : Nat) : (Ff.start Tryz.f69 #[.pointer (some ⟨m, 0, none⟩), .int .i64 6, .int .i64 arg, .int .i64 was]).callee = some (100, #[.pointer (some ⟨m, 0, none⟩), .int .i64 6]) := by kernel_rfl
set_option maxRecDepth 100000 in
theorem un6 (arg was : Int) (m : Nat) : (Ff.next (.tuple #[]) (Ff.start Tryz.f69 #[.pointer (some ⟨m, 0, none⟩), .int .i64 6, .int .i64 arg, .int .i64 was])).out Tryz.f69 = some .nilIface := by kernel_rfl
theorem do6 (arg was : Int) (B m : Nat) (sv bv mv : Value) (s : S) (w : World) (H : Held w B (mach m sv bv mv s false)) (hB : B ≤ w.heap.size) (W : Wf s) (hs : (moves 6).1 ≤ s.stack.length) (hb : (moves 6).2.1 ≤ s.back.length) : Calls Tryz.prog 69 #[.pointer (some ⟨m, 0, none⟩), .int .i64 6, .int .i64 arg, .int .i64 was] w (Acts w B m sv bv mv s (act s 6 arg was)) := by
  have ha : act s 6 arg was = .ok (shuffle s 6) := rfl
  rw [ha]
  exact Ff.void1 Tryz.func69 has_do (at6 arg was m) ent_shuffle (un6 arg was m) (shuffle_any 6 (by decide) B m sv bv mv s w H hB W hs) (fun w1 g => acts_ok g)
set_option maxRecDepth 100000 in
theorem at7 (arg was : Int) (m : Nat) : (Ff.start Tryz.f69 #[.pointer (some ⟨m, 0, none⟩), .int .i64 7, .int .i64 arg, .int .i64 was]).callee = some (100, #[.pointer (some ⟨m, 0, none⟩), .int .i64 7]) := by kernel_rfl
set_option maxRecDepth 100000 in
theorem un7 (arg was : Int) (m : Nat) : (Ff.next (.tuple #[]) (Ff.start Tryz.f69 #[.pointer (some ⟨m, 0, none⟩), .int .i64 7, .int .i64 arg, .int .i64 was])).out Tryz.f69 = some .nilIface := by kernel_rfl
theorem do7 (arg was : Int) (B m : Nat) (sv bv mv : Value) (s : S) (w : World) (H : Held w B (mach m sv bv mv s false)) (hB : B ≤ w.heap.size) (W : Wf s) (hs : (moves 7).1 ≤ s.stack.length) (hb : (moves 7).2.1 ≤ s.back.length) : Calls Tryz.prog 69 #[.pointer (some ⟨m, 0, none⟩), .int .i64 7, .int .i64 arg, .int .i64 was] w (Acts w B m sv bv mv s (act s 7 arg was)) := by
  have ha : act s 7 arg was = .ok (shuffle s 7) := rfl
  rw [ha]
  exact Ff.void1 Tryz.func69 has_do (at7 arg was m) ent_shuffle (un7 arg was m) (shuffle_any 7 (by decide) B m sv bv mv s w H hB W hs) (fun w1 g => acts_ok g)
set_option maxRecDepth 100000 in
theorem at8 (arg was : Int) (m : Nat) : (Ff.start Tryz.f69 #[.pointer (some ⟨m, 0, none⟩), .int .i64 8, .int .i64 arg, .int .i64 was]).callee = some (100, #[.pointer (some ⟨m, 0, none⟩), .int .i64 8]) := by kernel_rfl
set_option maxRecDepth 100000 in
theorem un8 (arg was : Int) (m : Nat) : (Ff.next (.tuple #[]) (Ff.start Tryz.f69 #[.pointer (some ⟨m, 0, none⟩), .int .i64 8, .int .i64 arg, .int .i64 was])).out Tryz.f69 = some .nilIface := by kernel_rfl
theorem do8 (arg was : Int) (B m : Nat) (sv bv mv : Value) (s : S) (w : World) (H : Held w B (mach m sv bv mv s false)) (hB : B ≤ w.heap.size) (W : Wf s) (hs : (moves 8).1 ≤ s.stack.length) (hb : (moves 8).2.1 ≤ s.back.length) : Calls Tryz.prog 69 #[.pointer (some ⟨m, 0, none⟩), .int .i64 8, .int .i64 arg, .int .i64 was] w (Acts w B m sv bv mv s (act s 8 arg was)) := by
  have ha : act s 8 arg was = .ok (shuffle s 8) := rfl
  rw [ha]
  exact Ff.void1 Tryz.func69 has_do (at8 arg was m) ent_shuffle (un8 arg was m) (shuffle_any 8 (by decide) B m sv bv mv s w H hB W hs) (fun w1 g => acts_ok g)
set_option maxRecDepth 100000 in
theorem at9 (arg was : Int) (m : Nat) : (Ff.start Tryz.f69 #[.pointer (some ⟨m, 0, none⟩), .int .i64 9, .int .i64 arg, .int .i64 was]).callee = some (100, #[.pointer (some ⟨m, 0, none⟩), .int .i64 9]) := by kernel_rfl
set_option maxRecDepth 100000 in
theorem un9 (arg was : Int) (m : Nat) : (Ff.next (.tuple #[]) (Ff.start Tryz.f69 #[.pointer (some ⟨m, 0, none⟩), .int .i64 9, .int .i64 arg, .int .i64 was])).out Tryz.f69 = some .nilIface := by kernel_rfl
theorem do9 (arg was : Int) (B m : Nat) (sv bv mv : Value) (s : S) (w : World) (H : Held w B (mach m sv bv mv s false)) (hB : B ≤ w.heap.size) (W : Wf s) (hs : (moves 9).1 ≤ s.stack.length) (hb : (moves 9).2.1 ≤ s.back.length) : Calls Tryz.prog 69 #[.pointer (some ⟨m, 0, none⟩), .int .i64 9, .int .i64 arg, .int .i64 was] w (Acts w B m sv bv mv s (act s 9 arg was)) := by
  have ha : act s 9 arg was = .ok (shuffle s 9) := rfl
  rw [ha]
  exact Ff.void1 Tryz.func69 has_do (at9 arg was m) ent_shuffle (un9 arg was m) (shuffle_any 9 (by decide) B m sv bv mv s w H hB W hs) (fun w1 g => acts_ok g)
set_option maxRecDepth 100000 in
theorem at10 (arg was : Int) (m : Nat) : (Ff.start Tryz.f69 #[.pointer (some ⟨m, 0, none⟩), .int .i64 10, .int .i64 arg, .int .i64 was]).callee = some (100, #[.pointer (some ⟨m, 0, none⟩), .int .i64 10]) := by kernel_rfl
set_option maxRecDepth 100000 in
theorem un10 (arg was : Int) (m : Nat) : (Ff.next (.tuple #[]) (Ff.start Tryz.f69 #[.pointer (some ⟨m, 0, none⟩), .int .i64 10, .int .i64 arg, .int .i64 was])).out Tryz.f69 = some .nilIface := by kernel_rfl
theorem do10 (arg was : Int) (B m : Nat) (sv bv mv : Value) (s : S) (w : World) (H : Held w B (mach m sv bv mv s false)) (hB : B ≤ w.heap.size) (W : Wf s) (hs : (moves 10).1 ≤ s.stack.length) (hb : (moves 10).2.1 ≤ s.back.length) : Calls Tryz.prog 69 #[.pointer (some ⟨m, 0, none⟩), .int .i64 10, .int .i64 arg, .int .i64 was] w (Acts w B m sv bv mv s (act s 10 arg was)) := by
  have ha : act s 10 arg was = .ok (shuffle s 10) := rfl
  rw [ha]
  exact Ff.void1 Tryz.func69 has_do (at10 arg was m) ent_shuffle (un10 arg was m) (shuffle_any 10 (by decide) B m sv bv mv s w H hB W hs) (fun w1 g => acts_ok g)
set_option maxRecDepth 100000 in
theorem at11 (arg was : Int) (m : Nat) : (Ff.start Tryz.f69 #[.pointer (some ⟨m, 0, none⟩), .int .i64 11, .int .i64 arg, .int .i64 was]).callee = some (107, #[.pointer (some ⟨m, 0, none⟩), .int .i64 11]) := by kernel_rfl
set_option maxRecDepth 100000 in
theorem un11 (arg was : Int) (m : Nat) (v : Value) : (Ff.next v (Ff.start Tryz.f69 #[.pointer (some ⟨m, 0, none⟩), .int .i64 11, .int .i64 arg, .int .i64 was])).out Tryz.f69 = some v := by kernel_rfl
theorem do11 (arg was : Int) (B m : Nat) (sv bv mv : Value) (s : S) (w : World) (H : Held w B (mach m sv bv mv s false)) (hB : B ≤ w.heap.size) (W : Wf s) (hs : (moves 11).1 ≤ s.stack.length) (hb : (moves 11).2.1 ≤ s.back.length) : Calls Tryz.prog 69 #[.pointer (some ⟨m, 0, none⟩), .int .i64 11, .int .i64 arg, .int .i64 was] w (Acts w B m sv bv mv s (act s 11 arg was)) := by
  have ha : act s 11 arg was = reckon s 11 := rfl
  rw [ha]
  exact Ff.pass1 Tryz.func69 has_do (at11 arg was m) ent_reckon (un11 arg was m) (reckon_any 11 (by decide) B m sv bv mv s w H hB W hs) (fun _ _ h => acts_ret h)
set_option maxRecDepth 100000 in
theorem at12 (arg was : Int) (m : Nat) : (Ff.start Tryz.f69 #[.pointer (some ⟨m, 0, none⟩), .int .i64 12, .int .i64 arg, .int .i64 was]).callee = some (107, #[.pointer (some ⟨m, 0, none⟩), .int .i64 12]) := by kernel_rfl
set_option maxRecDepth 100000 in
theorem un12 (arg was : Int) (m : Nat) (v : Value) : (Ff.next v (Ff.start Tryz.f69 #[.pointer (some ⟨m, 0, none⟩), .int .i64 12, .int .i64 arg, .int .i64 was])).out Tryz.f69 = some v := by kernel_rfl
theorem do12 (arg was : Int) (B m : Nat) (sv bv mv : Value) (s : S) (w : World) (H : Held w B (mach m sv bv mv s false)) (hB : B ≤ w.heap.size) (W : Wf s) (hs : (moves 12).1 ≤ s.stack.length) (hb : (moves 12).2.1 ≤ s.back.length) : Calls Tryz.prog 69 #[.pointer (some ⟨m, 0, none⟩), .int .i64 12, .int .i64 arg, .int .i64 was] w (Acts w B m sv bv mv s (act s 12 arg was)) := by
  have ha : act s 12 arg was = reckon s 12 := rfl
  rw [ha]
  exact Ff.pass1 Tryz.func69 has_do (at12 arg was m) ent_reckon (un12 arg was m) (reckon_any 12 (by decide) B m sv bv mv s w H hB W hs) (fun _ _ h => acts_ret h)
set_option maxRecDepth 100000 in
theorem at13 (arg was : Int) (m : Nat) : (Ff.start Tryz.f69 #[.pointer (some ⟨m, 0, none⟩), .int .i64 13, .int .i64 arg, .int .i64 was]).callee = some (107, #[.pointer (some ⟨m, 0, none⟩), .int .i64 13]) := by kernel_rfl
set_option maxRecDepth 100000 in
theorem un13 (arg was : Int) (m : Nat) (v : Value) : (Ff.next v (Ff.start Tryz.f69 #[.pointer (some ⟨m, 0, none⟩), .int .i64 13, .int .i64 arg, .int .i64 was])).out Tryz.f69 = some v := by kernel_rfl
theorem do13 (arg was : Int) (B m : Nat) (sv bv mv : Value) (s : S) (w : World) (H : Held w B (mach m sv bv mv s false)) (hB : B ≤ w.heap.size) (W : Wf s) (hs : (moves 13).1 ≤ s.stack.length) (hb : (moves 13).2.1 ≤ s.back.length) : Calls Tryz.prog 69 #[.pointer (some ⟨m, 0, none⟩), .int .i64 13, .int .i64 arg, .int .i64 was] w (Acts w B m sv bv mv s (act s 13 arg was)) := by
  have ha : act s 13 arg was = reckon s 13 := rfl
  rw [ha]
  exact Ff.pass1 Tryz.func69 has_do (at13 arg was m) ent_reckon (un13 arg was m) (reckon_any 13 (by decide) B m sv bv mv s w H hB W hs) (fun _ _ h => acts_ret h)
set_option maxRecDepth 100000 in
theorem at14 (arg was : Int) (m : Nat) : (Ff.start Tryz.f69 #[.pointer (some ⟨m, 0, none⟩), .int .i64 14, .int .i64 arg, .int .i64 was]).callee = some (107, #[.pointer (some ⟨m, 0, none⟩), .int .i64 14]) := by kernel_rfl
set_option maxRecDepth 100000 in
theorem un14 (arg was : Int) (m : Nat) (v : Value) : (Ff.next v (Ff.start Tryz.f69 #[.pointer (some ⟨m, 0, none⟩), .int .i64 14, .int .i64 arg, .int .i64 was])).out Tryz.f69 = some v := by kernel_rfl
theorem do14 (arg was : Int) (B m : Nat) (sv bv mv : Value) (s : S) (w : World) (H : Held w B (mach m sv bv mv s false)) (hB : B ≤ w.heap.size) (W : Wf s) (hs : (moves 14).1 ≤ s.stack.length) (hb : (moves 14).2.1 ≤ s.back.length) : Calls Tryz.prog 69 #[.pointer (some ⟨m, 0, none⟩), .int .i64 14, .int .i64 arg, .int .i64 was] w (Acts w B m sv bv mv s (act s 14 arg was)) := by
  have ha : act s 14 arg was = reckon s 14 := rfl
  rw [ha]
  exact Ff.pass1 Tryz.func69 has_do (at14 arg was m) ent_reckon (un14 arg was m) (reckon_any 14 (by decide) B m sv bv mv s w H hB W hs) (fun _ _ h => acts_ret h)
set_option maxRecDepth 100000 in
theorem at15 (arg was : Int) (m : Nat) : (Ff.start Tryz.f69 #[.pointer (some ⟨m, 0, none⟩), .int .i64 15, .int .i64 arg, .int .i64 was]).callee = some (107, #[.pointer (some ⟨m, 0, none⟩), .int .i64 15]) := by kernel_rfl
set_option maxRecDepth 100000 in
theorem un15 (arg was : Int) (m : Nat) (v : Value) : (Ff.next v (Ff.start Tryz.f69 #[.pointer (some ⟨m, 0, none⟩), .int .i64 15, .int .i64 arg, .int .i64 was])).out Tryz.f69 = some v := by kernel_rfl
theorem do15 (arg was : Int) (B m : Nat) (sv bv mv : Value) (s : S) (w : World) (H : Held w B (mach m sv bv mv s false)) (hB : B ≤ w.heap.size) (W : Wf s) (hs : (moves 15).1 ≤ s.stack.length) (hb : (moves 15).2.1 ≤ s.back.length) : Calls Tryz.prog 69 #[.pointer (some ⟨m, 0, none⟩), .int .i64 15, .int .i64 arg, .int .i64 was] w (Acts w B m sv bv mv s (act s 15 arg was)) := by
  have ha : act s 15 arg was = reckon s 15 := rfl
  rw [ha]
  exact Ff.pass1 Tryz.func69 has_do (at15 arg was m) ent_reckon (un15 arg was m) (reckon_any 15 (by decide) B m sv bv mv s w H hB W hs) (fun _ _ h => acts_ret h)
set_option maxRecDepth 100000 in
theorem at16 (arg was : Int) (m : Nat) : (Ff.start Tryz.f69 #[.pointer (some ⟨m, 0, none⟩), .int .i64 16, .int .i64 arg, .int .i64 was]).callee = some (107, #[.pointer (some ⟨m, 0, none⟩), .int .i64 16]) := by kernel_rfl
set_option maxRecDepth 100000 in
theorem un16 (arg was : Int) (m : Nat) (v : Value) : (Ff.next v (Ff.start Tryz.f69 #[.pointer (some ⟨m, 0, none⟩), .int .i64 16, .int .i64 arg, .int .i64 was])).out Tryz.f69 = some v := by kernel_rfl
theorem do16 (arg was : Int) (B m : Nat) (sv bv mv : Value) (s : S) (w : World) (H : Held w B (mach m sv bv mv s false)) (hB : B ≤ w.heap.size) (W : Wf s) (hs : (moves 16).1 ≤ s.stack.length) (hb : (moves 16).2.1 ≤ s.back.length) : Calls Tryz.prog 69 #[.pointer (some ⟨m, 0, none⟩), .int .i64 16, .int .i64 arg, .int .i64 was] w (Acts w B m sv bv mv s (act s 16 arg was)) := by
  have ha : act s 16 arg was = reckon s 16 := rfl
  rw [ha]
  exact Ff.pass1 Tryz.func69 has_do (at16 arg was m) ent_reckon (un16 arg was m) (reckon_any 16 (by decide) B m sv bv mv s w H hB W hs) (fun _ _ h => acts_ret h)
set_option maxRecDepth 100000 in
theorem at17 (arg was : Int) (m : Nat) : (Ff.start Tryz.f69 #[.pointer (some ⟨m, 0, none⟩), .int .i64 17, .int .i64 arg, .int .i64 was]).callee = some (107, #[.pointer (some ⟨m, 0, none⟩), .int .i64 17]) := by kernel_rfl
set_option maxRecDepth 100000 in
theorem un17 (arg was : Int) (m : Nat) (v : Value) : (Ff.next v (Ff.start Tryz.f69 #[.pointer (some ⟨m, 0, none⟩), .int .i64 17, .int .i64 arg, .int .i64 was])).out Tryz.f69 = some v := by kernel_rfl
theorem do17 (arg was : Int) (B m : Nat) (sv bv mv : Value) (s : S) (w : World) (H : Held w B (mach m sv bv mv s false)) (hB : B ≤ w.heap.size) (W : Wf s) (hs : (moves 17).1 ≤ s.stack.length) (hb : (moves 17).2.1 ≤ s.back.length) : Calls Tryz.prog 69 #[.pointer (some ⟨m, 0, none⟩), .int .i64 17, .int .i64 arg, .int .i64 was] w (Acts w B m sv bv mv s (act s 17 arg was)) := by
  have ha : act s 17 arg was = reckon s 17 := rfl
  rw [ha]
  exact Ff.pass1 Tryz.func69 has_do (at17 arg was m) ent_reckon (un17 arg was m) (reckon_any 17 (by decide) B m sv bv mv s w H hB W hs) (fun _ _ h => acts_ret h)
set_option maxRecDepth 100000 in
theorem at18 (arg was : Int) (m : Nat) : (Ff.start Tryz.f69 #[.pointer (some ⟨m, 0, none⟩), .int .i64 18, .int .i64 arg, .int .i64 was]).callee = some (107, #[.pointer (some ⟨m, 0, none⟩), .int .i64 18]) := by kernel_rfl
set_option maxRecDepth 100000 in
theorem un18 (arg was : Int) (m : Nat) (v : Value) : (Ff.next v (Ff.start Tryz.f69 #[.pointer (some ⟨m, 0, none⟩), .int .i64 18, .int .i64 arg, .int .i64 was])).out Tryz.f69 = some v := by kernel_rfl
theorem do18 (arg was : Int) (B m : Nat) (sv bv mv : Value) (s : S) (w : World) (H : Held w B (mach m sv bv mv s false)) (hB : B ≤ w.heap.size) (W : Wf s) (hs : (moves 18).1 ≤ s.stack.length) (hb : (moves 18).2.1 ≤ s.back.length) : Calls Tryz.prog 69 #[.pointer (some ⟨m, 0, none⟩), .int .i64 18, .int .i64 arg, .int .i64 was] w (Acts w B m sv bv mv s (act s 18 arg was)) := by
  have ha : act s 18 arg was = reckon s 18 := rfl
  rw [ha]
  exact Ff.pass1 Tryz.func69 has_do (at18 arg was m) ent_reckon (un18 arg was m) (reckon_any 18 (by decide) B m sv bv mv s w H hB W hs) (fun _ _ h => acts_ret h)
set_option maxRecDepth 100000 in
theorem at19 (arg was : Int) (m : Nat) : (Ff.start Tryz.f69 #[.pointer (some ⟨m, 0, none⟩), .int .i64 19, .int .i64 arg, .int .i64 was]).callee = some (107, #[.pointer (some ⟨m, 0, none⟩), .int .i64 19]) := by kernel_rfl
set_option maxRecDepth 100000 in
theorem un19 (arg was : Int) (m : Nat) (v : Value) : (Ff.next v (Ff.start Tryz.f69 #[.pointer (some ⟨m, 0, none⟩), .int .i64 19, .int .i64 arg, .int .i64 was])).out Tryz.f69 = some v := by kernel_rfl
theorem do19 (arg was : Int) (B m : Nat) (sv bv mv : Value) (s : S) (w : World) (H : Held w B (mach m sv bv mv s false)) (hB : B ≤ w.heap.size) (W : Wf s) (hs : (moves 19).1 ≤ s.stack.length) (hb : (moves 19).2.1 ≤ s.back.length) : Calls Tryz.prog 69 #[.pointer (some ⟨m, 0, none⟩), .int .i64 19, .int .i64 arg, .int .i64 was] w (Acts w B m sv bv mv s (act s 19 arg was)) := by
  have ha : act s 19 arg was = reckon s 19 := rfl
  rw [ha]
  exact Ff.pass1 Tryz.func69 has_do (at19 arg was m) ent_reckon (un19 arg was m) (reckon_any 19 (by decide) B m sv bv mv s w H hB W hs) (fun _ _ h => acts_ret h)
set_option maxRecDepth 100000 in
theorem at20 (arg was : Int) (m : Nat) : (Ff.start Tryz.f69 #[.pointer (some ⟨m, 0, none⟩), .int .i64 20, .int .i64 arg, .int .i64 was]).callee = some (107, #[.pointer (some ⟨m, 0, none⟩), .int .i64 20]) := by kernel_rfl
set_option maxRecDepth 100000 in
theorem un20 (arg was : Int) (m : Nat) (v : Value) : (Ff.next v (Ff.start Tryz.f69 #[.pointer (some ⟨m, 0, none⟩), .int .i64 20, .int .i64 arg, .int .i64 was])).out Tryz.f69 = some v := by kernel_rfl
theorem do20 (arg was : Int) (B m : Nat) (sv bv mv : Value) (s : S) (w : World) (H : Held w B (mach m sv bv mv s false)) (hB : B ≤ w.heap.size) (W : Wf s) (hs : (moves 20).1 ≤ s.stack.length) (hb : (moves 20).2.1 ≤ s.back.length) : Calls Tryz.prog 69 #[.pointer (some ⟨m, 0, none⟩), .int .i64 20, .int .i64 arg, .int .i64 was] w (Acts w B m sv bv mv s (act s 20 arg was)) := by
  have ha : act s 20 arg was = reckon s 20 := rfl
  rw [ha]
  exact Ff.pass1 Tryz.func69 has_do (at20 arg was m) ent_reckon (un20 arg was m) (reckon_any 20 (by decide) B m sv bv mv s w H hB W hs) (fun _ _ h => acts_ret h)
set_option maxRecDepth 100000 in
theorem at21 (arg was : Int) (m : Nat) : (Ff.start Tryz.f69 #[.pointer (some ⟨m, 0, none⟩), .int .i64 21, .int .i64 arg, .int .i64 was]).callee = some (107, #[.pointer (some ⟨m, 0, none⟩), .int .i64 21]) := by kernel_rfl
set_option maxRecDepth 100000 in
theorem un21 (arg was : Int) (m : Nat) (v : Value) : (Ff.next v (Ff.start Tryz.f69 #[.pointer (some ⟨m, 0, none⟩), .int .i64 21, .int .i64 arg, .int .i64 was])).out Tryz.f69 = some v := by kernel_rfl
theorem do21 (arg was : Int) (B m : Nat) (sv bv mv : Value) (s : S) (w : World) (H : Held w B (mach m sv bv mv s false)) (hB : B ≤ w.heap.size) (W : Wf s) (hs : (moves 21).1 ≤ s.stack.length) (hb : (moves 21).2.1 ≤ s.back.length) : Calls Tryz.prog 69 #[.pointer (some ⟨m, 0, none⟩), .int .i64 21, .int .i64 arg, .int .i64 was] w (Acts w B m sv bv mv s (act s 21 arg was)) := by
  have ha : act s 21 arg was = reckon s 21 := rfl
  rw [ha]
  exact Ff.pass1 Tryz.func69 has_do (at21 arg was m) ent_reckon (un21 arg was m) (reckon_any 21 (by decide) B m sv bv mv s w H hB W hs) (fun _ _ h => acts_ret h)
set_option maxRecDepth 100000 in
theorem at22 (arg was : Int) (m : Nat) : (Ff.start Tryz.f69 #[.pointer (some ⟨m, 0, none⟩), .int .i64 22, .int .i64 arg, .int .i64 was]).callee = some (107, #[.pointer (some ⟨m, 0, none⟩), .int .i64 22]) := by kernel_rfl
set_option maxRecDepth 100000 in
theorem un22 (arg was : Int) (m : Nat) (v : Value) : (Ff.next v (Ff.start Tryz.f69 #[.pointer (some ⟨m, 0, none⟩), .int .i64 22, .int .i64 arg, .int .i64 was])).out Tryz.f69 = some v := by kernel_rfl
theorem do22 (arg was : Int) (B m : Nat) (sv bv mv : Value) (s : S) (w : World) (H : Held w B (mach m sv bv mv s false)) (hB : B ≤ w.heap.size) (W : Wf s) (hs : (moves 22).1 ≤ s.stack.length) (hb : (moves 22).2.1 ≤ s.back.length) : Calls Tryz.prog 69 #[.pointer (some ⟨m, 0, none⟩), .int .i64 22, .int .i64 arg, .int .i64 was] w (Acts w B m sv bv mv s (act s 22 arg was)) := by
  have ha : act s 22 arg was = reckon s 22 := rfl
  rw [ha]
  exact Ff.pass1 Tryz.func69 has_do (at22 arg was m) ent_reckon (un22 arg was m) (reckon_any 22 (by decide) B m sv bv mv s w H hB W hs) (fun _ _ h => acts_ret h)
set_option maxRecDepth 100000 in
theorem at23 (arg was : Int) (m : Nat) : (Ff.start Tryz.f69 #[.pointer (some ⟨m, 0, none⟩), .int .i64 23, .int .i64 arg, .int .i64 was]).callee = some (107, #[.pointer (some ⟨m, 0, none⟩), .int .i64 23]) := by kernel_rfl
set_option maxRecDepth 100000 in
theorem un23 (arg was : Int) (m : Nat) (v : Value) : (Ff.next v (Ff.start Tryz.f69 #[.pointer (some ⟨m, 0, none⟩), .int .i64 23, .int .i64 arg, .int .i64 was])).out Tryz.f69 = some v := by kernel_rfl
theorem do23 (arg was : Int) (B m : Nat) (sv bv mv : Value) (s : S) (w : World) (H : Held w B (mach m sv bv mv s false)) (hB : B ≤ w.heap.size) (W : Wf s) (hs : (moves 23).1 ≤ s.stack.length) (hb : (moves 23).2.1 ≤ s.back.length) : Calls Tryz.prog 69 #[.pointer (some ⟨m, 0, none⟩), .int .i64 23, .int .i64 arg, .int .i64 was] w (Acts w B m sv bv mv s (act s 23 arg was)) := by
  have ha : act s 23 arg was = reckon s 23 := rfl
  rw [ha]
  exact Ff.pass1 Tryz.func69 has_do (at23 arg was m) ent_reckon (un23 arg was m) (reckon_any 23 (by decide) B m sv bv mv s w H hB W hs) (fun _ _ h => acts_ret h)
set_option maxRecDepth 100000 in
theorem at24 (arg was : Int) (m : Nat) : (Ff.start Tryz.f69 #[.pointer (some ⟨m, 0, none⟩), .int .i64 24, .int .i64 arg, .int .i64 was]).callee = some (107, #[.pointer (some ⟨m, 0, none⟩), .int .i64 24]) := by kernel_rfl
set_option maxRecDepth 100000 in
theorem un24 (arg was : Int) (m : Nat) (v : Value) : (Ff.next v (Ff.start Tryz.f69 #[.pointer (some ⟨m, 0, none⟩), .int .i64 24, .int .i64 arg, .int .i64 was])).out Tryz.f69 = some v := by kernel_rfl
theorem do24 (arg was : Int) (B m : Nat) (sv bv mv : Value) (s : S) (w : World) (H : Held w B (mach m sv bv mv s false)) (hB : B ≤ w.heap.size) (W : Wf s) (hs : (moves 24).1 ≤ s.stack.length) (hb : (moves 24).2.1 ≤ s.back.length) : Calls Tryz.prog 69 #[.pointer (some ⟨m, 0, none⟩), .int .i64 24, .int .i64 arg, .int .i64 was] w (Acts w B m sv bv mv s (act s 24 arg was)) := by
  have ha : act s 24 arg was = reckon s 24 := rfl
  rw [ha]
  exact Ff.pass1 Tryz.func69 has_do (at24 arg was m) ent_reckon (un24 arg was m) (reckon_any 24 (by decide) B m sv bv mv s w H hB W hs) (fun _ _ h => acts_ret h)
set_option maxRecDepth 100000 in
theorem at25 (arg was : Int) (m : Nat) : (Ff.start Tryz.f69 #[.pointer (some ⟨m, 0, none⟩), .int .i64 25, .int .i64 arg, .int .i64 was]).callee = some (107, #[.pointer (some ⟨m, 0, none⟩), .int .i64 25]) := by kernel_rfl
set_option maxRecDepth 100000 in
theorem un25 (arg was : Int) (m : Nat) (v : Value) : (Ff.next v (Ff.start Tryz.f69 #[.pointer (some ⟨m, 0, none⟩), .int .i64 25, .int .i64 arg, .int .i64 was])).out Tryz.f69 = some v := by kernel_rfl
theorem do25 (arg was : Int) (B m : Nat) (sv bv mv : Value) (s : S) (w : World) (H : Held w B (mach m sv bv mv s false)) (hB : B ≤ w.heap.size) (W : Wf s) (hs : (moves 25).1 ≤ s.stack.length) (hb : (moves 25).2.1 ≤ s.back.length) : Calls Tryz.prog 69 #[.pointer (some ⟨m, 0, none⟩), .int .i64 25, .int .i64 arg, .int .i64 was] w (Acts w B m sv bv mv s (act s 25 arg was)) := by
  have ha : act s 25 arg was = reckon s 25 := rfl
  rw [ha]
  exact Ff.pass1 Tryz.func69 has_do (at25 arg was m) ent_reckon (un25 arg was m) (reckon_any 25 (by decide) B m sv bv mv s w H hB W hs) (fun _ _ h => acts_ret h)
set_option maxRecDepth 100000 in
theorem at26 (arg was : Int) (m : Nat) : (Ff.start Tryz.f69 #[.pointer (some ⟨m, 0, none⟩), .int .i64 26, .int .i64 arg, .int .i64 was]).callee = some (107, #[.pointer (some ⟨m, 0, none⟩), .int .i64 26]) := by kernel_rfl
set_option maxRecDepth 100000 in
theorem un26 (arg was : Int) (m : Nat) (v : Value) : (Ff.next v (Ff.start Tryz.f69 #[.pointer (some ⟨m, 0, none⟩), .int .i64 26, .int .i64 arg, .int .i64 was])).out Tryz.f69 = some v := by kernel_rfl
theorem do26 (arg was : Int) (B m : Nat) (sv bv mv : Value) (s : S) (w : World) (H : Held w B (mach m sv bv mv s false)) (hB : B ≤ w.heap.size) (W : Wf s) (hs : (moves 26).1 ≤ s.stack.length) (hb : (moves 26).2.1 ≤ s.back.length) : Calls Tryz.prog 69 #[.pointer (some ⟨m, 0, none⟩), .int .i64 26, .int .i64 arg, .int .i64 was] w (Acts w B m sv bv mv s (act s 26 arg was)) := by
  have ha : act s 26 arg was = reckon s 26 := rfl
  rw [ha]
  exact Ff.pass1 Tryz.func69 has_do (at26 arg was m) ent_reckon (un26 arg was m) (reckon_any 26 (by decide) B m sv bv mv s w H hB W hs) (fun _ _ h => acts_ret h)
set_option maxRecDepth 100000 in
theorem at27 (arg was : Int) (m : Nat) : (Ff.start Tryz.f69 #[.pointer (some ⟨m, 0, none⟩), .int .i64 27, .int .i64 arg, .int .i64 was]).callee = some (107, #[.pointer (some ⟨m, 0, none⟩), .int .i64 27]) := by kernel_rfl
set_option maxRecDepth 100000 in
theorem un27 (arg was : Int) (m : Nat) (v : Value) : (Ff.next v (Ff.start Tryz.f69 #[.pointer (some ⟨m, 0, none⟩), .int .i64 27, .int .i64 arg, .int .i64 was])).out Tryz.f69 = some v := by kernel_rfl
theorem do27 (arg was : Int) (B m : Nat) (sv bv mv : Value) (s : S) (w : World) (H : Held w B (mach m sv bv mv s false)) (hB : B ≤ w.heap.size) (W : Wf s) (hs : (moves 27).1 ≤ s.stack.length) (hb : (moves 27).2.1 ≤ s.back.length) : Calls Tryz.prog 69 #[.pointer (some ⟨m, 0, none⟩), .int .i64 27, .int .i64 arg, .int .i64 was] w (Acts w B m sv bv mv s (act s 27 arg was)) := by
  have ha : act s 27 arg was = reckon s 27 := rfl
  rw [ha]
  exact Ff.pass1 Tryz.func69 has_do (at27 arg was m) ent_reckon (un27 arg was m) (reckon_any 27 (by decide) B m sv bv mv s w H hB W hs) (fun _ _ h => acts_ret h)
set_option maxRecDepth 100000 in
theorem at28 (arg was : Int) (m : Nat) : (Ff.start Tryz.f69 #[.pointer (some ⟨m, 0, none⟩), .int .i64 28, .int .i64 arg, .int .i64 was]).callee = some (107, #[.pointer (some ⟨m, 0, none⟩), .int .i64 28]) := by kernel_rfl
set_option maxRecDepth 100000 in
theorem un28 (arg was : Int) (m : Nat) (v : Value) : (Ff.next v (Ff.start Tryz.f69 #[.pointer (some ⟨m, 0, none⟩), .int .i64 28, .int .i64 arg, .int .i64 was])).out Tryz.f69 = some v := by kernel_rfl
theorem do28 (arg was : Int) (B m : Nat) (sv bv mv : Value) (s : S) (w : World) (H : Held w B (mach m sv bv mv s false)) (hB : B ≤ w.heap.size) (W : Wf s) (hs : (moves 28).1 ≤ s.stack.length) (hb : (moves 28).2.1 ≤ s.back.length) : Calls Tryz.prog 69 #[.pointer (some ⟨m, 0, none⟩), .int .i64 28, .int .i64 arg, .int .i64 was] w (Acts w B m sv bv mv s (act s 28 arg was)) := by
  have ha : act s 28 arg was = reckon s 28 := rfl
  rw [ha]
  exact Ff.pass1 Tryz.func69 has_do (at28 arg was m) ent_reckon (un28 arg was m) (reckon_any 28 (by decide) B m sv bv mv s w H hB W hs) (fun _ _ h => acts_ret h)
set_option maxRecDepth 100000 in
theorem at29 (arg was : Int) (m : Nat) : (Ff.start Tryz.f69 #[.pointer (some ⟨m, 0, none⟩), .int .i64 29, .int .i64 arg, .int .i64 was]).callee = some (107, #[.pointer (some ⟨m, 0, none⟩), .int .i64 29]) := by kernel_rfl
set_option maxRecDepth 100000 in
theorem un29 (arg was : Int) (m : Nat) (v : Value) : (Ff.next v (Ff.start Tryz.f69 #[.pointer (some ⟨m, 0, none⟩), .int .i64 29, .int .i64 arg, .int .i64 was])).out Tryz.f69 = some v := by kernel_rfl
theorem do29 (arg was : Int) (B m : Nat) (sv bv mv : Value) (s : S) (w : World) (H : Held w B (mach m sv bv mv s false)) (hB : B ≤ w.heap.size) (W : Wf s) (hs : (moves 29).1 ≤ s.stack.length) (hb : (moves 29).2.1 ≤ s.back.length) : Calls Tryz.prog 69 #[.pointer (some ⟨m, 0, none⟩), .int .i64 29, .int .i64 arg, .int .i64 was] w (Acts w B m sv bv mv s (act s 29 arg was)) := by
  have ha : act s 29 arg was = reckon s 29 := rfl
  rw [ha]
  exact Ff.pass1 Tryz.func69 has_do (at29 arg was m) ent_reckon (un29 arg was m) (reckon_any 29 (by decide) B m sv bv mv s w H hB W hs) (fun _ _ h => acts_ret h)
set_option maxRecDepth 100000 in
theorem at30 (arg was : Int) (m : Nat) : (Ff.start Tryz.f69 #[.pointer (some ⟨m, 0, none⟩), .int .i64 30, .int .i64 arg, .int .i64 was]).callee = some (101, #[.pointer (some ⟨m, 0, none⟩), .int .i64 30]) := by kernel_rfl
set_option maxRecDepth 100000 in
theorem un30 (arg was : Int) (m : Nat) (v : Value) : (Ff.next v (Ff.start Tryz.f69 #[.pointer (some ⟨m, 0, none⟩), .int .i64 30, .int .i64 arg, .int .i64 was])).out Tryz.f69 = some v := by kernel_rfl
theorem do30 (arg was : Int) (B m : Nat) (sv bv mv : Value) (s : S) (w : World) (H : Held w B (mach m sv bv mv s false)) (hB : B ≤ w.heap.size) (W : Wf s) (hs : (moves 30).1 ≤ s.stack.length) (hb : (moves 30).2.1 ≤ s.back.length) : Calls Tryz.prog 69 #[.pointer (some ⟨m, 0, none⟩), .int .i64 30, .int .i64 arg, .int .i64 was] w (Acts w B m sv bv mv s (act s 30 arg was)) := by
  have ha : act s 30 arg was = memory s 30 := rfl
  rw [ha]
  exact Ff.pass1 Tryz.func69 has_do (at30 arg was m) ent_memory (un30 arg was m) (memory_any 30 (by decide) B m sv bv mv s w H hB W hs) (fun _ _ h => acts_ret h)
set_option maxRecDepth 100000 in
theorem at31 (arg was : Int) (m : Nat) : (Ff.start Tryz.f69 #[.pointer (some ⟨m, 0, none⟩), .int .i64 31, .int .i64 arg, .int .i64 was]).callee = some (101, #[.pointer (some ⟨m, 0, none⟩), .int .i64 31]) := by kernel_rfl
set_option maxRecDepth 100000 in
theorem un31 (arg was : Int) (m : Nat) (v : Value) : (Ff.next v (Ff.start Tryz.f69 #[.pointer (some ⟨m, 0, none⟩), .int .i64 31, .int .i64 arg, .int .i64 was])).out Tryz.f69 = some v := by kernel_rfl
theorem do31 (arg was : Int) (B m : Nat) (sv bv mv : Value) (s : S) (w : World) (H : Held w B (mach m sv bv mv s false)) (hB : B ≤ w.heap.size) (W : Wf s) (hs : (moves 31).1 ≤ s.stack.length) (hb : (moves 31).2.1 ≤ s.back.length) : Calls Tryz.prog 69 #[.pointer (some ⟨m, 0, none⟩), .int .i64 31, .int .i64 arg, .int .i64 was] w (Acts w B m sv bv mv s (act s 31 arg was)) := by
  have ha : act s 31 arg was = memory s 31 := rfl
  rw [ha]
  exact Ff.pass1 Tryz.func69 has_do (at31 arg was m) ent_memory (un31 arg was m) (memory_any 31 (by decide) B m sv bv mv s w H hB W hs) (fun _ _ h => acts_ret h)
set_option maxRecDepth 100000 in
theorem at32 (arg was : Int) (m : Nat) : (Ff.start Tryz.f69 #[.pointer (some ⟨m, 0, none⟩), .int .i64 32, .int .i64 arg, .int .i64 was]).callee = some (101, #[.pointer (some ⟨m, 0, none⟩), .int .i64 32]) := by kernel_rfl
set_option maxRecDepth 100000 in
theorem un32 (arg was : Int) (m : Nat) (v : Value) : (Ff.next v (Ff.start Tryz.f69 #[.pointer (some ⟨m, 0, none⟩), .int .i64 32, .int .i64 arg, .int .i64 was])).out Tryz.f69 = some v := by kernel_rfl
theorem do32 (arg was : Int) (B m : Nat) (sv bv mv : Value) (s : S) (w : World) (H : Held w B (mach m sv bv mv s false)) (hB : B ≤ w.heap.size) (W : Wf s) (hs : (moves 32).1 ≤ s.stack.length) (hb : (moves 32).2.1 ≤ s.back.length) : Calls Tryz.prog 69 #[.pointer (some ⟨m, 0, none⟩), .int .i64 32, .int .i64 arg, .int .i64 was] w (Acts w B m sv bv mv s (act s 32 arg was)) := by
  have ha : act s 32 arg was = memory s 32 := rfl
  rw [ha]
  exact Ff.pass1 Tryz.func69 has_do (at32 arg was m) ent_memory (un32 arg was m) (memory_any 32 (by decide) B m sv bv mv s w H hB W hs) (fun _ _ h => acts_ret h)
set_option maxRecDepth 100000 in
theorem at33 (arg was : Int) (m : Nat) : (Ff.start Tryz.f69 #[.pointer (some ⟨m, 0, none⟩), .int .i64 33, .int .i64 arg, .int .i64 was]).callee = some (102, #[.pointer (some ⟨m, 0, none⟩), .int .i64 33]) := by kernel_rfl
set_option maxRecDepth 100000 in
theorem un33 (arg was : Int) (m : Nat) : (Ff.next (.tuple #[]) (Ff.start Tryz.f69 #[.pointer (some ⟨m, 0, none⟩), .int .i64 33, .int .i64 arg, .int .i64 was])).out Tryz.f69 = some .nilIface := by kernel_rfl
theorem do33 (arg was : Int) (B m : Nat) (sv bv mv : Value) (s : S) (w : World) (H : Held w B (mach m sv bv mv s false)) (hB : B ≤ w.heap.size) (W : Wf s) (hs : (moves 33).1 ≤ s.stack.length) (hb : (moves 33).2.1 ≤ s.back.length) : Calls Tryz.prog 69 #[.pointer (some ⟨m, 0, none⟩), .int .i64 33, .int .i64 arg, .int .i64 was] w (Acts w B m sv bv mv s (act s 33 arg was)) := by
  have ha : act s 33 arg was = .ok (backs s 33) := rfl
  rw [ha]
  exact Ff.void1 Tryz.func69 has_do (at33 arg was m) ent_backs (un33 arg was m) (backs_any 33 (by decide) B m sv bv mv s w H hB W hs hb) (fun w1 g => acts_ok g)
set_option maxRecDepth 100000 in
theorem at34 (arg was : Int) (m : Nat) : (Ff.start Tryz.f69 #[.pointer (some ⟨m, 0, none⟩), .int .i64 34, .int .i64 arg, .int .i64 was]).callee = some (102, #[.pointer (some ⟨m, 0, none⟩), .int .i64 34]) := by kernel_rfl
set_option maxRecDepth 100000 in
theorem un34 (arg was : Int) (m : Nat) : (Ff.next (.tuple #[]) (Ff.start Tryz.f69 #[.pointer (some ⟨m, 0, none⟩), .int .i64 34, .int .i64 arg, .int .i64 was])).out Tryz.f69 = some .nilIface := by kernel_rfl
theorem do34 (arg was : Int) (B m : Nat) (sv bv mv : Value) (s : S) (w : World) (H : Held w B (mach m sv bv mv s false)) (hB : B ≤ w.heap.size) (W : Wf s) (hs : (moves 34).1 ≤ s.stack.length) (hb : (moves 34).2.1 ≤ s.back.length) : Calls Tryz.prog 69 #[.pointer (some ⟨m, 0, none⟩), .int .i64 34, .int .i64 arg, .int .i64 was] w (Acts w B m sv bv mv s (act s 34 arg was)) := by
  have ha : act s 34 arg was = .ok (backs s 34) := rfl
  rw [ha]
  exact Ff.void1 Tryz.func69 has_do (at34 arg was m) ent_backs (un34 arg was m) (backs_any 34 (by decide) B m sv bv mv s w H hB W hs hb) (fun w1 g => acts_ok g)
set_option maxRecDepth 100000 in
theorem at35 (arg was : Int) (m : Nat) : (Ff.start Tryz.f69 #[.pointer (some ⟨m, 0, none⟩), .int .i64 35, .int .i64 arg, .int .i64 was]).callee = some (102, #[.pointer (some ⟨m, 0, none⟩), .int .i64 35]) := by kernel_rfl
set_option maxRecDepth 100000 in
theorem un35 (arg was : Int) (m : Nat) : (Ff.next (.tuple #[]) (Ff.start Tryz.f69 #[.pointer (some ⟨m, 0, none⟩), .int .i64 35, .int .i64 arg, .int .i64 was])).out Tryz.f69 = some .nilIface := by kernel_rfl
theorem do35 (arg was : Int) (B m : Nat) (sv bv mv : Value) (s : S) (w : World) (H : Held w B (mach m sv bv mv s false)) (hB : B ≤ w.heap.size) (W : Wf s) (hs : (moves 35).1 ≤ s.stack.length) (hb : (moves 35).2.1 ≤ s.back.length) : Calls Tryz.prog 69 #[.pointer (some ⟨m, 0, none⟩), .int .i64 35, .int .i64 arg, .int .i64 was] w (Acts w B m sv bv mv s (act s 35 arg was)) := by
  have ha : act s 35 arg was = .ok (backs s 35) := rfl
  rw [ha]
  exact Ff.void1 Tryz.func69 has_do (at35 arg was m) ent_backs (un35 arg was m) (backs_any 35 (by decide) B m sv bv mv s w H hB W hs hb) (fun w1 g => acts_ok g)
set_option maxRecDepth 100000 in
theorem at36 (arg was : Int) (m : Nat) : (Ff.start Tryz.f69 #[.pointer (some ⟨m, 0, none⟩), .int .i64 36, .int .i64 arg, .int .i64 was]).callee = some (102, #[.pointer (some ⟨m, 0, none⟩), .int .i64 36]) := by kernel_rfl
set_option maxRecDepth 100000 in
theorem un36 (arg was : Int) (m : Nat) : (Ff.next (.tuple #[]) (Ff.start Tryz.f69 #[.pointer (some ⟨m, 0, none⟩), .int .i64 36, .int .i64 arg, .int .i64 was])).out Tryz.f69 = some .nilIface := by kernel_rfl
theorem do36 (arg was : Int) (B m : Nat) (sv bv mv : Value) (s : S) (w : World) (H : Held w B (mach m sv bv mv s false)) (hB : B ≤ w.heap.size) (W : Wf s) (hs : (moves 36).1 ≤ s.stack.length) (hb : (moves 36).2.1 ≤ s.back.length) : Calls Tryz.prog 69 #[.pointer (some ⟨m, 0, none⟩), .int .i64 36, .int .i64 arg, .int .i64 was] w (Acts w B m sv bv mv s (act s 36 arg was)) := by
  have ha : act s 36 arg was = .ok (backs s 36) := rfl
  rw [ha]
  exact Ff.void1 Tryz.func69 has_do (at36 arg was m) ent_backs (un36 arg was m) (backs_any 36 (by decide) B m sv bv mv s w H hB W hs hb) (fun w1 g => acts_ok g)
set_option maxRecDepth 100000 in
theorem at37 (arg was : Int) (m : Nat) : (Ff.start Tryz.f69 #[.pointer (some ⟨m, 0, none⟩), .int .i64 37, .int .i64 arg, .int .i64 was]).callee = some (103, #[.pointer (some ⟨m, 0, none⟩), .int .i64 37, .int .i64 arg]) := by kernel_rfl
set_option maxRecDepth 100000 in
theorem un37 (arg was : Int) (m : Nat) : (Ff.next (.tuple #[]) (Ff.start Tryz.f69 #[.pointer (some ⟨m, 0, none⟩), .int .i64 37, .int .i64 arg, .int .i64 was])).out Tryz.f69 = some .nilIface := by kernel_rfl
theorem do37 (arg was : Int) (B m : Nat) (sv bv mv : Value) (s : S) (w : World) (H : Held w B (mach m sv bv mv s false)) (hB : B ≤ w.heap.size) (W : Wf s) (hs : (moves 37).1 ≤ s.stack.length) (hb : (moves 37).2.1 ≤ s.back.length) : Calls Tryz.prog 69 #[.pointer (some ⟨m, 0, none⟩), .int .i64 37, .int .i64 arg, .int .i64 was] w (Acts w B m sv bv mv s (act s 37 arg was)) := by
  have ha : act s 37 arg was = .ok (loop s 37 arg) := rfl
  rw [ha]
  exact Ff.void1 Tryz.func69 has_do (at37 arg was m) ent_loop (un37 arg was m) (loop_any 37 arg (by decide) B m sv bv mv s w H hB W hs hb) (fun w1 g => acts_ok g)
set_option maxRecDepth 100000 in
theorem at38 (arg was : Int) (m : Nat) : (Ff.start Tryz.f69 #[.pointer (some ⟨m, 0, none⟩), .int .i64 38, .int .i64 arg, .int .i64 was]).callee = some (103, #[.pointer (some ⟨m, 0, none⟩), .int .i64 38, .int .i64 arg]) := by kernel_rfl
set_option maxRecDepth 100000 in
theorem un38 (arg was : Int) (m : Nat) : (Ff.next (.tuple #[]) (Ff.start Tryz.f69 #[.pointer (some ⟨m, 0, none⟩), .int .i64 38, .int .i64 arg, .int .i64 was])).out Tryz.f69 = some .nilIface := by kernel_rfl
theorem do38 (arg was : Int) (B m : Nat) (sv bv mv : Value) (s : S) (w : World) (H : Held w B (mach m sv bv mv s false)) (hB : B ≤ w.heap.size) (W : Wf s) (hs : (moves 38).1 ≤ s.stack.length) (hb : (moves 38).2.1 ≤ s.back.length) : Calls Tryz.prog 69 #[.pointer (some ⟨m, 0, none⟩), .int .i64 38, .int .i64 arg, .int .i64 was] w (Acts w B m sv bv mv s (act s 38 arg was)) := by
  have ha : act s 38 arg was = .ok (loop s 38 arg) := rfl
  rw [ha]
  exact Ff.void1 Tryz.func69 has_do (at38 arg was m) ent_loop (un38 arg was m) (loop_any 38 arg (by decide) B m sv bv mv s w H hB W hs hb) (fun w1 g => acts_ok g)
set_option maxRecDepth 100000 in
theorem at39 (arg was : Int) (m : Nat) : (Ff.start Tryz.f69 #[.pointer (some ⟨m, 0, none⟩), .int .i64 39, .int .i64 arg, .int .i64 was]).callee = some (102, #[.pointer (some ⟨m, 0, none⟩), .int .i64 39]) := by kernel_rfl
set_option maxRecDepth 100000 in
theorem un39 (arg was : Int) (m : Nat) : (Ff.next (.tuple #[]) (Ff.start Tryz.f69 #[.pointer (some ⟨m, 0, none⟩), .int .i64 39, .int .i64 arg, .int .i64 was])).out Tryz.f69 = some .nilIface := by kernel_rfl
theorem do39 (arg was : Int) (B m : Nat) (sv bv mv : Value) (s : S) (w : World) (H : Held w B (mach m sv bv mv s false)) (hB : B ≤ w.heap.size) (W : Wf s) (hs : (moves 39).1 ≤ s.stack.length) (hb : (moves 39).2.1 ≤ s.back.length) : Calls Tryz.prog 69 #[.pointer (some ⟨m, 0, none⟩), .int .i64 39, .int .i64 arg, .int .i64 was] w (Acts w B m sv bv mv s (act s 39 arg was)) := by
  have ha : act s 39 arg was = .ok (backs s 39) := rfl
  rw [ha]
  exact Ff.void1 Tryz.func69 has_do (at39 arg was m) ent_backs (un39 arg was m) (backs_any 39 (by decide) B m sv bv mv s w H hB W hs hb) (fun w1 g => acts_ok g)
set_option maxRecDepth 100000 in
theorem at40 (arg was : Int) (m : Nat) : (Ff.start Tryz.f69 #[.pointer (some ⟨m, 0, none⟩), .int .i64 40, .int .i64 arg, .int .i64 was]).callee = some (102, #[.pointer (some ⟨m, 0, none⟩), .int .i64 40]) := by kernel_rfl
set_option maxRecDepth 100000 in
theorem un40 (arg was : Int) (m : Nat) : (Ff.next (.tuple #[]) (Ff.start Tryz.f69 #[.pointer (some ⟨m, 0, none⟩), .int .i64 40, .int .i64 arg, .int .i64 was])).out Tryz.f69 = some .nilIface := by kernel_rfl
theorem do40 (arg was : Int) (B m : Nat) (sv bv mv : Value) (s : S) (w : World) (H : Held w B (mach m sv bv mv s false)) (hB : B ≤ w.heap.size) (W : Wf s) (hs : (moves 40).1 ≤ s.stack.length) (hb : (moves 40).2.1 ≤ s.back.length) : Calls Tryz.prog 69 #[.pointer (some ⟨m, 0, none⟩), .int .i64 40, .int .i64 arg, .int .i64 was] w (Acts w B m sv bv mv s (act s 40 arg was)) := by
  have ha : act s 40 arg was = .ok (backs s 40) := rfl
  rw [ha]
  exact Ff.void1 Tryz.func69 has_do (at40 arg was m) ent_backs (un40 arg was m) (backs_any 40 (by decide) B m sv bv mv s w H hB W hs hb) (fun w1 g => acts_ok g)
set_option maxRecDepth 100000 in
theorem at41 (arg was : Int) (m : Nat) : (Ff.start Tryz.f69 #[.pointer (some ⟨m, 0, none⟩), .int .i64 41, .int .i64 arg, .int .i64 was]).callee = some (104, #[.pointer (some ⟨m, 0, none⟩), .int .i64 41]) := by kernel_rfl
set_option maxRecDepth 100000 in
theorem un41 (arg was : Int) (m : Nat) (v : Value) : (Ff.next v (Ff.start Tryz.f69 #[.pointer (some ⟨m, 0, none⟩), .int .i64 41, .int .i64 arg, .int .i64 was])).out Tryz.f69 = some v := by kernel_rfl
theorem do41 (arg was : Int) (B m : Nat) (sv bv mv : Value) (s : S) (w : World) (H : Held w B (mach m sv bv mv s false)) (hB : B ≤ w.heap.size) (W : Wf s) (hs : (moves 41).1 ≤ s.stack.length) (hb : (moves 41).2.1 ≤ s.back.length) : Calls Tryz.prog 69 #[.pointer (some ⟨m, 0, none⟩), .int .i64 41, .int .i64 arg, .int .i64 was] w (Acts w B m sv bv mv s (act s 41 arg was)) := by
  have ha : act s 41 arg was = sayR s 41 := rfl
  rw [ha]
  exact Ff.pass1 Tryz.func69 has_do (at41 arg was m) ent_say (un41 arg was m) (say_any 41 (by decide) B m sv bv mv s w H hB W hs) (fun _ _ h => acts_ret h)
set_option maxRecDepth 100000 in
theorem at42 (arg was : Int) (m : Nat) : (Ff.start Tryz.f69 #[.pointer (some ⟨m, 0, none⟩), .int .i64 42, .int .i64 arg, .int .i64 was]).callee = some (104, #[.pointer (some ⟨m, 0, none⟩), .int .i64 42]) := by kernel_rfl
set_option maxRecDepth 100000 in
theorem un42 (arg was : Int) (m : Nat) (v : Value) : (Ff.next v (Ff.start Tryz.f69 #[.pointer (some ⟨m, 0, none⟩), .int .i64 42, .int .i64 arg, .int .i64 was])).out Tryz.f69 = some v := by kernel_rfl
theorem do42 (arg was : Int) (B m : Nat) (sv bv mv : Value) (s : S) (w : World) (H : Held w B (mach m sv bv mv s false)) (hB : B ≤ w.heap.size) (W : Wf s) (hs : (moves 42).1 ≤ s.stack.length) (hb : (moves 42).2.1 ≤ s.back.length) : Calls Tryz.prog 69 #[.pointer (some ⟨m, 0, none⟩), .int .i64 42, .int .i64 arg, .int .i64 was] w (Acts w B m sv bv mv s (act s 42 arg was)) := by
  have ha : act s 42 arg was = sayR s 42 := rfl
  rw [ha]
  exact Ff.pass1 Tryz.func69 has_do (at42 arg was m) ent_say (un42 arg was m) (say_any 42 (by decide) B m sv bv mv s w H hB W hs) (fun _ _ h => acts_ret h)
set_option maxRecDepth 100000 in
theorem at43 (arg was : Int) (m : Nat) : (Ff.start Tryz.f69 #[.pointer (some ⟨m, 0, none⟩), .int .i64 43, .int .i64 arg, .int .i64 was]).callee = some (105, #[.pointer (some ⟨m, 0, none⟩)]) := by kernel_rfl
set_option maxRecDepth 100000 in
theorem un43 (arg was : Int) (m : Nat) : (Ff.next (.tuple #[]) (Ff.start Tryz.f69 #[.pointer (some ⟨m, 0, none⟩), .int .i64 43, .int .i64 arg, .int .i64 was])).out Tryz.f69 = some .nilIface := by kernel_rfl
theorem do43 (arg was : Int) (B m : Nat) (sv bv mv : Value) (s : S) (w : World) (H : Held w B (mach m sv bv mv s false)) (hB : B ≤ w.heap.size) (W : Wf s) (hs : (moves 43).1 ≤ s.stack.length) (hb : (moves 43).2.1 ≤ s.back.length) : Calls Tryz.prog 69 #[.pointer (some ⟨m, 0, none⟩), .int .i64 43, .int .i64 arg, .int .i64 was] w (Acts w B m sv bv mv s (act s 43 arg was)) := by
  have ha : act s 43 arg was = .ok (key s) := rfl
  rw [ha]
  exact Ff.void1 Tryz.func69 has_do (at43 arg was m) ent_key (un43 arg was m) (key_any B m sv bv mv s w H hB W) (fun w1 g => acts_ok g)
set_option maxRecDepth 100000 in
theorem at44 (arg was : Int) (m : Nat) : (Ff.start Tryz.f69 #[.pointer (some ⟨m, 0, none⟩), .int .i64 44, .int .i64 arg, .int .i64 was]).callee = some (106, #[.pointer (some ⟨m, 0, none⟩), .int .i64 44]) := by kernel_rfl
set_option maxRecDepth 100000 in
theorem un44 (arg was : Int) (m : Nat) (v : Value) : (Ff.next v (Ff.start Tryz.f69 #[.pointer (some ⟨m, 0, none⟩), .int .i64 44, .int .i64 arg, .int .i64 was])).out Tryz.f69 = some v := by kernel_rfl
theorem do44 (arg was : Int) (B m : Nat) (sv bv mv : Value) (s : S) (w : World) (H : Held w B (mach m sv bv mv s false)) (hB : B ≤ w.heap.size) (W : Wf s) (hs : (moves 44).1 ≤ s.stack.length) (hb : (moves 44).2.1 ≤ s.back.length) : Calls Tryz.prog 69 #[.pointer (some ⟨m, 0, none⟩), .int .i64 44, .int .i64 arg, .int .i64 was] w (Acts w B m sv bv mv s (act s 44 arg was)) := by
  have ha : act s 44 arg was = flow s 44 := rfl
  rw [ha]
  exact Ff.pass1 Tryz.func69 has_do (at44 arg was m) ent_flow (un44 arg was m) (flow_any 44 (by decide) B m sv bv mv s w H hB W hs) (fun _ _ h => acts_ret h)
set_option maxRecDepth 100000 in
theorem at45 (arg was : Int) (m : Nat) : (Ff.start Tryz.f69 #[.pointer (some ⟨m, 0, none⟩), .int .i64 45, .int .i64 arg, .int .i64 was]).callee = some (106, #[.pointer (some ⟨m, 0, none⟩), .int .i64 45]) := by kernel_rfl
set_option maxRecDepth 100000 in
theorem un45 (arg was : Int) (m : Nat) (v : Value) : (Ff.next v (Ff.start Tryz.f69 #[.pointer (some ⟨m, 0, none⟩), .int .i64 45, .int .i64 arg, .int .i64 was])).out Tryz.f69 = some v := by kernel_rfl
theorem do45 (arg was : Int) (B m : Nat) (sv bv mv : Value) (s : S) (w : World) (H : Held w B (mach m sv bv mv s false)) (hB : B ≤ w.heap.size) (W : Wf s) (hs : (moves 45).1 ≤ s.stack.length) (hb : (moves 45).2.1 ≤ s.back.length) : Calls Tryz.prog 69 #[.pointer (some ⟨m, 0, none⟩), .int .i64 45, .int .i64 arg, .int .i64 was] w (Acts w B m sv bv mv s (act s 45 arg was)) := by
  have ha : act s 45 arg was = flow s 45 := rfl
  rw [ha]
  exact Ff.pass1 Tryz.func69 has_do (at45 arg was m) ent_flow (un45 arg was m) (flow_any 45 (by decide) B m sv bv mv s w H hB W hs) (fun _ _ h => acts_ret h)
set_option maxRecDepth 100000 in
theorem at46 (arg was : Int) (m : Nat) : (Ff.start Tryz.f69 #[.pointer (some ⟨m, 0, none⟩), .int .i64 46, .int .i64 arg, .int .i64 was]).callee = some (106, #[.pointer (some ⟨m, 0, none⟩), .int .i64 46]) := by kernel_rfl
set_option maxRecDepth 100000 in
theorem un46 (arg was : Int) (m : Nat) (v : Value) : (Ff.next v (Ff.start Tryz.f69 #[.pointer (some ⟨m, 0, none⟩), .int .i64 46, .int .i64 arg, .int .i64 was])).out Tryz.f69 = some v := by kernel_rfl
theorem do46 (arg was : Int) (B m : Nat) (sv bv mv : Value) (s : S) (w : World) (H : Held w B (mach m sv bv mv s false)) (hB : B ≤ w.heap.size) (W : Wf s) (hs : (moves 46).1 ≤ s.stack.length) (hb : (moves 46).2.1 ≤ s.back.length) : Calls Tryz.prog 69 #[.pointer (some ⟨m, 0, none⟩), .int .i64 46, .int .i64 arg, .int .i64 was] w (Acts w B m sv bv mv s (act s 46 arg was)) := by
  have ha : act s 46 arg was = flow s 46 := rfl
  rw [ha]
  exact Ff.pass1 Tryz.func69 has_do (at46 arg was m) ent_flow (un46 arg was m) (flow_any 46 (by decide) B m sv bv mv s w H hB W hs) (fun _ _ h => acts_ret h)
set_option maxRecDepth 100000 in
theorem at47 (arg was : Int) (m : Nat) : (Ff.start Tryz.f69 #[.pointer (some ⟨m, 0, none⟩), .int .i64 47, .int .i64 arg, .int .i64 was]).out Tryz.f69 = some .nilIface := by kernel_rfl
theorem do47 (arg was : Int) (B m : Nat) (sv bv mv : Value) (s : S) (w : World) (H : Held w B (mach m sv bv mv s false)) (hB : B ≤ w.heap.size) (W : Wf s) (hs : (moves 47).1 ≤ s.stack.length) (hb : (moves 47).2.1 ≤ s.back.length) : Calls Tryz.prog 69 #[.pointer (some ⟨m, 0, none⟩), .int .i64 47, .int .i64 arg, .int .i64 was] w (Acts w B m sv bv mv s (act s 47 arg was)) := by
  exact Ff.end0 Tryz.func69 has_do (at47 arg was m) (acts_ok (Goes.refl H))
end Go.Proofs.YtompdfpjmdnhoabGreatDoor.Mc
namespace Go.Proofs.YtompdfpjmdnhoabGreatDoor.Mc
open Go.RowKit Go.Proofs.YtompdfpjmdnhoabGreatDoor.Rs Go.Proofs.YtompdfpjmdnhoabGreatDoor.Ft
set_option maxHeartbeats 1000000 in
set_option maxRecDepth 100000 in
theorem do0 (arg was : Int) (B m : Nat) (sv bv mv : Value) (s : S) (w : World) (H : Held w B (mach m sv bv mv s false)) (hB : B ≤ w.heap.size) (W : Wf s) (hs : (moves 0).1 ≤ s.stack.length) (hb : (moves 0).2.1 ≤ s.back.length) : Calls Tryz.prog 69 #[.pointer (some ⟨m, 0, none⟩), .int .i64 0, .int .i64 arg, .int .i64 was] w (Acts w B m sv bv mv s (act s 0 arg was)) := by
  have k := m_blk H
  have c0 : w.cell? ⟨m, 0, none⟩ = some (.int .i64 s.ip) := k.cell 0
  have f0 := k.frozen 0
  have c8 : w.cell? ⟨m, 8, none⟩ = some (.int .i64 s.status) := k.cell 8
  have f8 := k.frozen 8
  have ha : act s 0 arg was = .ok { s with ip := was, status := 1 } := rfl
  rw [ha]
  have G := Lib.hid (Goes.status (Goes.ip (Goes.refl H) was) 1)
  clear k H W hs hb ha
  go_enter Tryz.func69, Tryz.ntmps69
  go_wp2_with fail
  go_ret
  exact acts_ok G.out
set_option maxHeartbeats 1000000 in
set_option maxRecDepth 100000 in
theorem do2 (arg was : Int) (B m : Nat) (sv bv mv : Value) (s : S) (w : World) (H : Held w B (mach m sv bv mv s false)) (hB : B ≤ w.heap.size) (W : Wf s) (hs : (moves 2).1 ≤ s.stack.length) (hb : (moves 2).2.1 ≤ s.back.length) : Calls Tryz.prog 69 #[.pointer (some ⟨m, 0, none⟩), .int .i64 2, .int .i64 arg, .int .i64 was] w (Acts w B m sv bv mv s (act s 2 arg was)) := by
  have hs2 := W.ns
  have ha : act s 2 arg was = .ok (push s [arg]) := rfl
  rw [ha]
  have HC := Lib.hid (push_lit B m sv bv mv s false w H hB [arg] _ rfl 1 1 rfl (by simp; omega))
  clear H W hs hb ha
  go_enter Tryz.func69, Tryz.ntmps69
  go_wp2_with fail
  refine HC.out.mono ?_
  rintro e w1 ⟨rfl, g⟩
  have G := Lib.hid g
  clear g
  go_wp2_with fail
  go_ret
  exact acts_ok G.out
set_option maxHeartbeats 1000000 in
set_option maxRecDepth 100000 in
theorem do3 (arg was : Int) (B m : Nat) (sv bv mv : Value) (s : S) (w : World) (H : Held w B (mach m sv bv mv s false)) (hB : B ≤ w.heap.size) (W : Wf s) (hs : (moves 3).1 ≤ s.stack.length) (hb : (moves 3).2.1 ≤ s.back.length) : Calls Tryz.prog 69 #[.pointer (some ⟨m, 0, none⟩), .int .i64 3, .int .i64 arg, .int .i64 was] w (Acts w B m sv bv mv s (act s 3 arg was)) := by
  have k := m_blk H
  have c0 : w.cell? ⟨m, 0, none⟩ = some (.int .i64 s.ip) := k.cell 0
  have f0 := k.frozen 0
  have ha : act s 3 arg was = .ok { s with ip := arg } := rfl
  rw [ha]
  have G := Lib.hid (Goes.ip (Goes.refl H) arg)
  clear k H W hs hb ha
  go_enter Tryz.func69, Tryz.ntmps69
  go_wp2_with fail
  go_ret
  exact acts_ok G.out
set_option maxHeartbeats 1000000 in
set_option maxRecDepth 100000 in
theorem do4 (arg was : Int) (B m : Nat) (sv bv mv : Value) (s : S) (w : World) (H : Held w B (mach m sv bv mv s false)) (hB : B ≤ w.heap.size) (W : Wf s) (hs : (moves 4).1 ≤ s.stack.length) (hb : (moves 4).2.1 ≤ s.back.length) : Calls Tryz.prog 69 #[.pointer (some ⟨m, 0, none⟩), .int .i64 4, .int .i64 arg, .int .i64 was] w (Acts w B m sv bv mv s (act s 4 arg was)) := by
  have hs2 := W.ns
  have h1 : 1 ≤ s.stack.length := hs
  have HP := Lib.hid (pop_any B m sv bv mv s false w H (ne_of_pos (by omega)) (by omega))
  obtain ⟨x, hx⟩ : ∃ x, top s.stack = x := ⟨_, rfl⟩
  have ha : act s 4 arg was = .ok (if x = 0 then { pop s with ip := arg } else pop s) := by rw [← hx]; rfl
  rw [ha]
  rw [hx] at HP
  clear H W hs hb ha hx hs2 h1
  by_cases h0 : x = 0
  · subst h0
    rw [if_pos rfl]
    go_enter Tryz.func69, Tryz.ntmps69
    go_wp2_with fail
    refine HP.out.mono ?_
    rintro e w1 ⟨rfl, g⟩
    obtain ⟨sv1, bv1, N⟩ := g
    have k1 := m_blk N.held
    have c0 : w1.cell? ⟨m, 0, none⟩ = some (.int .i64 s.ip) := k1.cell 0
    have f0 := k1.frozen 0
    have G := Lib.hid (m_ip N arg)
    clear N k1
    go_wp2_with fail
    go_ret
    exact acts_ok ⟨_, _, G.out⟩
  · rw [if_neg h0]
    have h0b : (x != 0) = true := bne_iff_ne.2 h0
    go_enter Tryz.func69, Tryz.ntmps69
    go_wp2_with fail
    refine HP.out.mono ?_
    rintro e w1 ⟨rfl, g⟩
    have G := Lib.hid g
    clear g
    go_wp2_with fail
    go_ret
    exact acts_ok G.out
set_option maxHeartbeats 1000000 in
set_option maxRecDepth 100000 in
theorem do5 (arg was : Int) (B m : Nat) (sv bv mv : Value) (s : S) (w : World) (H : Held w B (mach m sv bv mv s false)) (hB : B ≤ w.heap.size) (W : Wf s) (hs : (moves 5).1 ≤ s.stack.length) (hb : (moves 5).2.1 ≤ s.back.length) : Calls Tryz.prog 69 #[.pointer (some ⟨m, 0, none⟩), .int .i64 5, .int .i64 arg, .int .i64 was] w (Acts w B m sv bv mv s (act s 5 arg was)) := by
  have hb2 := W.nb
  have h1 : 1 ≤ s.back.length := hb
  have HP := Lib.hid (popBack_any B m sv bv mv s false w H (ne_of_pos (by omega)) (by omega))
  obtain ⟨x, hx⟩ : ∃ x, top s.back = x := ⟨_, rfl⟩
  have ha : act s 5 arg was = .ok { popBack s with ip := x } := by rw [← hx]; rfl
  rw [ha]
  rw [hx] at HP
  clear H W hs hb ha hx
  go_enter Tryz.func69, Tryz.ntmps69
  go_wp2_with fail
  refine HP.out.mono ?_
  rintro e w1 ⟨rfl, g⟩
  obtain ⟨sv1, bv1, N⟩ := g
  have k1 := m_blk N.held
  have c0 : w1.cell? ⟨m, 0, none⟩ = some (.int .i64 s.ip) := k1.cell 0
  have f0 := k1.frozen 0
  have G := Lib.hid (m_ip N x)
  clear N k1
  go_wp2_with fail
  go_ret
  exact acts_ok ⟨_, _, G.out⟩
theorem do_any (c : Int) (hc : isOp c = true) (arg was : Int) (B m : Nat) (sv bv mv : Value) (s : S) (w : World) (H : Held w B (mach m sv bv mv s false)) (hB : B ≤ w.heap.size) (W : Wf s) (hs : (moves c).1 ≤ s.stack.length) (hb : (moves c).2.1 ≤ s.back.length) :
    Calls Tryz.prog 69 #[.pointer (some ⟨m, 0, none⟩), .int .i64 c, .int .i64 arg, .int .i64 was] w (Acts w B m sv bv mv s (act s c arg was)) := by
  have hc2 : 0 ≤ c ∧ c < 48 := by simpa [isOp] using hc
  have : c = 0 ∨ c = 1 ∨ c = 2 ∨ c = 3 ∨ c = 4 ∨ c = 5 ∨ c = 6 ∨ c = 7 ∨ c = 8 ∨ c = 9 ∨ c = 10 ∨ c = 11 ∨ c = 12 ∨ c = 13 ∨ c = 14 ∨ c = 15 ∨ c = 16 ∨ c = 17 ∨ c = 18 ∨ c = 19 ∨ c = 20 ∨ c = 21 ∨ c = 22 ∨ c = 23 ∨ c = 24 ∨ c = 25 ∨ c = 26 ∨ c = 27 ∨ c = 28 ∨ c = 29 ∨ c = 30 ∨ c = 31 ∨ c = 32 ∨ c = 33 ∨ c = 34 ∨ c = 35 ∨ c = 36 ∨ c = 37 ∨ c = 38 ∨ c = 39 ∨ c = 40 ∨ c = 41 ∨ c = 42 ∨ c = 43 ∨ c = 44 ∨ c = 45 ∨ c = 46 ∨ c = 47 := by omega
  rcases this with rfl | rfl | rfl | rfl | rfl | rfl | rfl | rfl | rfl | rfl | rfl | rfl | rfl | rfl | rfl | rfl | rfl | rfl | rfl | rfl | rfl | rfl | rfl | rfl | rfl | rfl | rfl | rfl | rfl | rfl | rfl | rfl | rfl | rfl | rfl | rfl | rfl | rfl | rfl | rfl | rfl | rfl | rfl | rfl | rfl | rfl | rfl | rfl
  · exact do0 arg was B m sv bv mv s w H hB W hs hb
  · exact do1 arg was B m sv bv mv s w H hB W hs hb
  · exact do2 arg was B m sv bv mv s w H hB W hs hb
  · exact do3 arg was B m sv bv mv s w H hB W hs hb
  · exact do4 arg was B m sv bv mv s w H hB W hs hb
  · exact do5 arg was B m sv bv mv s w H hB W hs hb
  · exact do6 arg was B m sv bv mv s w H hB W hs hb
  · exact do7 arg was B m sv bv mv s w H hB W hs hb
  · exact do8 arg was B m sv bv mv s w H hB W hs hb
  · exact do9 arg was B m sv bv mv s w H hB W hs hb
  · exact do10 arg was B m sv bv mv s w H hB W hs hb
  · exact do11 arg was B m sv bv mv s w H hB W hs hb
  · exact do12 arg was B m sv bv mv s w H hB W hs hb
  · exact do13 arg was B m sv bv mv s w H hB W hs hb
  · exact do14 arg was B m sv bv mv s w H hB W hs hb
  · exact do15 arg was B m sv bv mv s w H hB W hs hb
  · exact do16 arg was B m sv bv mv s w H hB W hs hb
  · exact do17 arg was B m sv bv mv s w H hB W hs hb
  · exact do18 arg was B m sv bv mv s w H hB W hs hb
  · exact do19 arg was B m sv bv mv s w H hB W hs hb
  · exact do20 arg was B m sv bv mv s w H hB W hs hb
  · exact do21 arg was B m sv bv mv s w H hB W hs hb
  · exact do22 arg was B m sv bv mv s w H hB W hs hb
  · exact do23 arg was B m sv bv mv s w H hB W hs hb
  · exact do24 arg was B m sv bv mv s w H hB W hs hb
  · exact do25 arg was B m sv bv mv s w H hB W hs hb
  · exact do26 arg was B m sv bv mv s w H hB W hs hb
  · exact do27 arg was B m sv bv mv s w H hB W hs hb
  · exact do28 arg was B m sv bv mv s w H hB W hs hb
  · exact do29 arg was B m sv bv mv s w H hB W hs hb
  · exact do30 arg was B m sv bv mv s w H hB W hs hb
  · exact do31 arg was B m sv bv mv s w H hB W hs hb
  · exact do32 arg was B m sv bv mv s w H hB W hs hb
  · exact do33 arg was B m sv bv mv s w H hB W hs hb
  · exact do34 arg was B m sv bv mv s w H hB W hs hb
  · exact do35 arg was B m sv bv mv s w H hB W hs hb
  · exact do36 arg was B m sv bv mv s w H hB W hs hb
  · exact do37 arg was B m sv bv mv s w H hB W hs hb
  · exact do38 arg was B m sv bv mv s w H hB W hs hb
  · exact do39 arg was B m sv bv mv s w H hB W hs hb
  · exact do40 arg was B m sv bv mv s w H hB W hs hb
  · exact do41 arg was B m sv bv mv s w H hB W hs hb
  · exact do42 arg was B m sv bv mv s w H hB W hs hb
  · exact do43 arg was B m sv bv mv s w H hB W hs hb
  · exact do44 arg was B m sv bv mv s w H hB W hs hb
  · exact do45 arg was B m sv bv mv s w H hB W hs hb
  · exact do46 arg was B m sv bv mv s w H hB W hs hb
  · exact do47 arg was B m sv bv mv s w H hB W hs hb
end Go.Proofs.YtompdfpjmdnhoabGreatDoor.Mc
