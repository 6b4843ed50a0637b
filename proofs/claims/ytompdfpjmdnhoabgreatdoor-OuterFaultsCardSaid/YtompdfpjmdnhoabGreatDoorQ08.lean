/-
  Lemmas on the way, for every input that they name: McV, McT.
-/
import Derived.Laws.BitsLemmas
import Derived.Test.YtompdfpjmdnhoabGreatDoorQ00
set_option linter.unusedVariables false
set_option linter.unusedSimpArgs false
set_option linter.deprecated false
namespace Go.Proofs.YtompdfpjmdnhoabGreatDoor.Mc
open Go.RowKit
def In (x : Int) : Prop := -9223372036854775808 ≤ x ∧ x ≤ 9223372036854775807
structure Wf (s : S) : Prop where
  st : ∀ x ∈ s.stack, In x
  bk : ∀ x ∈ s.back, In x
  me : ∀ x ∈ s.mem, In x
  ip : In s.ip
  hd : In s.handler
  rd : 0 ≤ s.read
  rd2 : s.read ≤ s.inp.size
  ot : s.out.size ≤ 2000
  inp : s.inp.size ≤ 5000
  ns : s.stack.length ≤ 48
  nb : s.back.length ≤ 48
  nm : s.mem.length ≤ 3000
theorem in_wr (x : Int) : In (wr x) := by
  unfold In wr wrap64
  omega
theorem in_wrap (x : Int) : In (IntKind.i64.wrap x) := by
  unfold In
  rw [IntKind.wrap_i64]
  omega
theorem in_zero : In 0 := by unfold In; omega
theorem in_flag (b : Bool) : In (flag b) := by cases b <;> simp [flag, In]
theorem in_small {x : Int} (h : -10000 ≤ x) (h' : x ≤ 10000) : In x := by unfold In; omega
theorem in_getD {l : List Int} (h : ∀ x ∈ l, In x) (i : Nat) : In (l.getD i 0) := by
  rw [List.getD_eq_getElem?_getD]
  cases hi : l[i]? with
  | none => exact in_zero
  | some v => exact h v (List.mem_of_getElem? hi)
theorem in_top {l : List Int} (h : ∀ x ∈ l, In x) : In (top l) := in_getD h _
theorem in_drop {l : List Int} (h : ∀ x ∈ l, In x) : ∀ x ∈ l.dropLast, In x := fun x hx => h x ((List.dropLast_sublist l).subset hx)
section
variable {s : S} (W : Wf s)
include W
theorem Wf.stack' (l : List Int) (h : ∀ x ∈ l, In x) (hn : l.length ≤ 48) : Wf { s with stack := l } := ⟨h, W.bk, W.me, W.ip, W.hd, W.rd, W.rd2, W.ot, W.inp, hn, W.nb, W.nm⟩
theorem Wf.back' (l : List Int) (h : ∀ x ∈ l, In x) (hn : l.length ≤ 48) : Wf { s with back := l } := ⟨W.st, h, W.me, W.ip, W.hd, W.rd, W.rd2, W.ot, W.inp, W.ns, hn, W.nm⟩
theorem Wf.mem' (l : List Int) (h : ∀ x ∈ l, In x) (hn : l.length ≤ 3000) : Wf { s with mem := l } := ⟨W.st, W.bk, h, W.ip, W.hd, W.rd, W.rd2, W.ot, W.inp, W.ns, W.nb, hn⟩
theorem Wf.ip' (x : Int) (h : In x) : Wf { s with ip := x } := ⟨W.st, W.bk, W.me, h, W.hd, W.rd, W.rd2, W.ot, W.inp, W.ns, W.nb, W.nm⟩
theorem Wf.hd' (x : Int) (h : In x) : Wf { s with handler := x } := ⟨W.st, W.bk, W.me, W.ip, h, W.rd, W.rd2, W.ot, W.inp, W.ns, W.nb, W.nm⟩
theorem Wf.status' (x : Int) : Wf { s with status := x } := ⟨W.st, W.bk, W.me, W.ip, W.hd, W.rd, W.rd2, W.ot, W.inp, W.ns, W.nb, W.nm⟩
theorem Wf.code' (x : Int) : Wf { s with code := x } := ⟨W.st, W.bk, W.me, W.ip, W.hd, W.rd, W.rd2, W.ot, W.inp, W.ns, W.nb, W.nm⟩
theorem Wf.out' (x : ByteArray) (h : x.size ≤ 2000) : Wf { s with out := x } := ⟨W.st, W.bk, W.me, W.ip, W.hd, W.rd, W.rd2, h, W.inp, W.ns, W.nb, W.nm⟩
theorem Wf.read' (x : Int) (h : 0 ≤ x) (h' : x ≤ s.inp.size) : Wf { s with read := x } := ⟨W.st, W.bk, W.me, W.ip, W.hd, h, h', W.ot, W.inp, W.ns, W.nb, W.nm⟩
theorem Wf.pop : Wf (pop s) := W.stack' _ (in_drop W.st) (by have := W.ns; simp; omega)
theorem Wf.popBack : Wf (popBack s) := W.back' _ (in_drop W.bk) (by have := W.nb; simp; omega)
theorem Wf.push (l : List Int) (h : ∀ x ∈ l, In x) (hn : s.stack.length + l.length ≤ 48) : Wf (push s l) :=
  W.stack' _ (fun x hx => (List.mem_append.1 hx).elim (W.st x) (h x)) (by simpa using hn)
theorem Wf.lay (l : List Int) (h : ∀ x ∈ l, In x) (hn : s.back.length + l.length ≤ 48) : Wf (lay s l) :=
  W.back' _ (fun x hx => (List.mem_append.1 hx).elim (W.bk x) (h x)) (by simpa using hn)
theorem Wf.top : In (top s.stack) := in_top W.st
theorem Wf.topBack : In (Mc.top s.back) := in_top W.bk
end
def Good (s : S) : Rslt → Prop
  | .ok s' => Wf s' ∧ s'.mem.length = s.mem.length ∧ s'.inp = s.inp
  | .bad c _ => In c
theorem in1 {x : Int} (h : In x) : ∀ y ∈ [x], In y := by intro y hy; simp at hy; subst hy; exact h
theorem in2 {x z : Int} (h : In x) (k : In z) : ∀ y ∈ [x, z], In y := by intro y hy; simp at hy; rcases hy with rfl | rfl <;> assumption
theorem in3 {x z u : Int} (h : In x) (k : In z) (j : In u) : ∀ y ∈ [x, z, u], In y := by intro y hy; simp at hy; rcases hy with rfl | rfl | rfl <;> assumption
theorem in4 {x z u v : Int} (h : In x) (k : In z) (j : In u) (i : In v) : ∀ y ∈ [x, z, u, v], In y := by intro y hy; simp at hy; rcases hy with rfl | rfl | rfl | rfl <;> assumption
theorem pop_length (s : S) : (pop s).stack.length = s.stack.length - 1 := by simp [pop]
theorem popBack_length (s : S) : (popBack s).back.length = s.back.length - 1 := by simp [popBack]
theorem shuffle_wf (s : S) (c : Int) (W : Wf s) (hc : 6 ≤ c ∧ c ≤ 10) (h1 : (moves c).1 ≤ s.stack.length) (h2 : s.stack.length - (moves c).1 + (moves c).2.2.1 ≤ 48) : Wf (shuffle s c) := by
  have hx := W.top
  have hy := W.pop.top
  have hz := W.pop.pop.top
  have l1 := pop_length s
  have l2 := pop_length (pop s)
  have l3 := pop_length (pop (pop s))
  have : c = 6 ∨ c = 7 ∨ c = 8 ∨ c = 9 ∨ c = 10 := by omega
  rcases this with rfl | rfl | rfl | rfl | rfl <;> simp only [show moves 6 = (1, 0, 2, 0) from rfl, show moves 7 = (1, 0, 0, 0) from rfl, show moves 8 = (2, 0, 2, 0) from rfl, show moves 9 = (2, 0, 3, 0) from rfl, show moves 10 = (3, 0, 3, 0) from rfl] at h1 h2
  · exact W.pop.push _ (in2 hx hx) (by simp; omega)
  · exact W.pop
  · exact W.pop.pop.push _ (in2 hx hy) (by simp; omega)
  · exact W.pop.pop.push _ (in3 hy hx hy) (by simp; omega)
  · exact W.pop.pop.pop.push _ (in3 hy hx hz) (by simp; omega)
theorem backs_wf (s : S) (c : Int) (W : Wf s) (hc : (33 ≤ c ∧ c ≤ 36) ∨ c = 39 ∨ c = 40) (h1 : (moves c).1 ≤ s.stack.length) (hb : (moves c).2.1 ≤ s.back.length) (h2 : s.stack.length - (moves c).1 + (moves c).2.2.1 ≤ 48) (h3 : s.back.length - (moves c).2.1 + (moves c).2.2.2 ≤ 48) : Wf (backs s c) := by
  have hx := W.top
  have hy := W.pop.top
  have hz := W.topBack
  have l1 := pop_length s
  have l2 := pop_length (pop s)
  have l3 := popBack_length s
  have : c = 33 ∨ c = 34 ∨ c = 35 ∨ c = 36 ∨ c = 39 ∨ c = 40 := by omega
  rcases this with rfl | rfl | rfl | rfl | rfl | rfl <;> simp only [show moves 33 = (1, 0, 0, 1) from rfl, show moves 34 = (0, 1, 1, 0) from rfl, show moves 35 = (0, 1, 1, 1) from rfl, show moves 36 = (2, 0, 0, 2) from rfl, show moves 39 = (0, 3, 1, 3) from rfl, show moves 40 = (0, 2, 0, 0) from rfl] at h1 h2 hb h3
  · exact W.pop.lay _ (in1 hx) (by show s.back.length + 1 ≤ 48; omega)
  · exact W.popBack.push _ (in1 hz) (by show s.stack.length + 1 ≤ 48; omega)
  · exact W.push _ (in1 hz) (by show s.stack.length + 1 ≤ 48; omega)
  · exact W.pop.pop.lay _ (in2 hy hx) (by show s.back.length + 2 ≤ 48; omega)
  · exact W.push _ (in1 (in_getD W.bk _)) (by show s.stack.length + 1 ≤ 48; omega)
  · exact W.back' _ (fun x hx => W.bk x (List.mem_of_mem_take hx)) (by have := W.nb; simp; omega)
theorem loop_wf (s : S) (c arg : Int) (W : Wf s) (ha : In arg) (hb : 2 ≤ s.back.length) : Wf (loop s c arg) := by
  have W2 := W.popBack.popBack
  have l1 := popBack_length s
  have l2 := popBack_length (popBack s)
  have nb := W.nb
  have hl := W.popBack.topBack
  unfold loop
  dsimp only
  split
  · split
    · exact W2.pop
    · exact (W2.pop.lay _ (in2 hl (in_wr _)) (by show (popBack (popBack s)).back.length + 2 ≤ 48; omega)).ip' _ ha
  · split
    · exact W2
    · exact (W2.lay _ (in2 hl (in_wr _)) (by show (popBack (popBack s)).back.length + 2 ≤ 48; omega)).ip' _ ha
theorem one_in (c a v : Int) (h : one c a = some v) : In v := by
  unfold one at h
  repeat' split at h
  all_goals (first | (injection h with h; subst h; first | exact in_wr _ | exact in_flag _ | (unfold bxor; exact in_wrap _)) | cases h)
theorem floor_in {a b : Int} {p : Int × Int} (ha : In a) (hb : In b) (h : floor a b = some p) : In p.1 ∧ In p.2 := by
  unfold floor at h
  repeat' split at h
  · cases h
  · injection h with h; subst h; exact ⟨in_wr _, in_zero⟩
  · injection h with h; subst h; exact ⟨in_wr _, in_wr _⟩
  · injection h with h
    subst h
    refine ⟨in_wr _, ?_⟩
    show In (a.tmod b)
    have h1 := Int.tmod_lt_of_pos a (b := b)
    have h2 := Int.lt_tmod_of_pos a (b := b)
    unfold In at *
    rcases Int.lt_or_gt_of_ne (show b ≠ 0 by assumption) with hb0 | hb0
    · have e : a.tmod b = a.tmod (-b) := by rw [Int.tmod_neg]
      have h3 := Int.tmod_lt_of_pos a (b := -b) (by omega)
      have h4 := Int.lt_tmod_of_pos a (b := -b) (by omega)
      omega
    · have h3 := h1 hb0
      have h4 := h2 hb0
      omega
theorem two_in (c a b v : Int) (ha : In a) (hb : In b) (h : two c a b = some v) : In v := by
  unfold two at h
  by_cases k11 : c = 11
  · rw [if_pos k11] at h; injection h with h; subst h; exact in_wr _
  rw [if_neg k11] at h
  by_cases k12 : c = 12
  · rw [if_pos k12] at h; injection h with h; subst h; exact in_wr _
  rw [if_neg k12] at h
  by_cases k13 : c = 13
  · rw [if_pos k13] at h; injection h with h; subst h; exact in_wr _
  rw [if_neg k13] at h
  by_cases k14 : c = 14
  · rw [if_pos k14] at h; simp only [Option.map_eq_some_iff] at h; obtain ⟨p, hp, rfl⟩ := h; exact (floor_in ha hb hp).1
  rw [if_neg k14] at h
  by_cases k15 : c = 15
  · rw [if_pos k15] at h; simp only [Option.map_eq_some_iff] at h; obtain ⟨p, hp, rfl⟩ := h; exact (floor_in ha hb hp).2
  rw [if_neg k15] at h
  by_cases k17 : c = 17
  · rw [if_pos k17] at h; injection h with h; subst h; exact in_wrap _
  rw [if_neg k17] at h
  by_cases k18 : c = 18
  · rw [if_pos k18] at h; injection h with h; subst h; exact in_wrap _
  rw [if_neg k18] at h
  by_cases k19 : c = 19
  · rw [if_pos k19] at h; injection h with h; subst h; exact in_wrap _
  rw [if_neg k19] at h
  by_cases k21 : c = 21
  · rw [if_pos k21] at h; injection h with h; subst h; unfold shl; split; exact in_zero; exact in_wr _
  rw [if_neg k21] at h
  by_cases k22 : c = 22
  · rw [if_pos k22] at h; injection h with h; subst h; unfold shr; split; exact in_zero; exact in_wr _
  rw [if_neg k22] at h
  by_cases k23 : c = 23
  · rw [if_pos k23] at h; injection h with h; subst h; exact in_flag _
  rw [if_neg k23] at h
  by_cases k24 : c = 24
  · rw [if_pos k24] at h; injection h with h; subst h; exact in_flag _
  rw [if_neg k24] at h
  by_cases k25 : c = 25
  · rw [if_pos k25] at h; injection h with h; subst h; exact in_flag _
  rw [if_neg k25] at h
  by_cases k28 : c = 28
  · rw [if_pos k28] at h; injection h with h; subst h; refine ⟨?_, ?_⟩ <;> (have := ha.1; have := ha.2; have := hb.1; have := hb.2; omega)
  rw [if_neg k28] at h
  by_cases k29 : c = 29
  · rw [if_pos k29] at h; injection h with h; subst h; refine ⟨?_, ?_⟩ <;> (have := ha.1; have := ha.2; have := hb.1; have := hb.2; omega)
  rw [if_neg k29] at h
  cases h
theorem reckon_good (s : S) (c : Int) (W : Wf s) (hs : 1 ≤ s.stack.length) (h2 : (one c (Mc.top s.stack)).isSome = false → 2 ≤ s.stack.length) : Good s (reckon s c) := by
  have l1 := pop_length s
  have l2 := pop_length (pop s)
  have ns := W.ns
  unfold reckon
  split
  · rename_i v hv
    exact ⟨W.pop.push _ (in1 (one_in _ _ _ hv)) (by show (pop s).stack.length + 1 ≤ 48; omega), rfl, rfl⟩
  · rename_i hv
    have := h2 (by rw [hv]; rfl)
    split
    · rename_i v hv2
      exact ⟨W.pop.pop.push _ (in1 (two_in _ _ _ _ W.pop.top W.top hv2)) (by show (pop (pop s)).stack.length + 1 ≤ 48; omega), rfl, rfl⟩
    · exact in_small (by decide) (by decide)
theorem memory_good (s : S) (c : Int) (W : Wf s) (hc : 30 ≤ c ∧ c ≤ 32) (h1 : (moves c).1 ≤ s.stack.length) : Good s (memory s c) := by
  have l1 := pop_length s
  have ns := W.ns
  have hp : 1 ≤ s.stack.length := by
    have : c = 30 ∨ c = 31 ∨ c = 32 := by omega
    rcases this with rfl | rfl | rfl <;> simp only [show moves 30 = (1, 0, 1, 0) from rfl, show moves 31 = (2, 0, 0, 0) from rfl, show moves 32 = (2, 0, 0, 0) from rfl] at h1 <;> omega
  unfold memory
  dsimp only
  split
  · exact in_small (by decide) (by decide)
  · rename_i v hv
    split
    · refine ⟨W.pop.push _ (in1 ?_) (by show (pop s).stack.length + 1 ≤ 48; omega), rfl, rfl⟩
      unfold load at hv
      split at hv
      · injection hv with hv; subst hv; exact in_getD W.me _
      · cases hv
    · refine ⟨W.pop.pop.mem' _ (fun x hx => ?_) (by have := W.nm; simpa using this), by simp, rfl⟩
      rcases List.mem_or_eq_of_mem_set hx with h | rfl
      · exact W.me x h
      · exact in_wr _
theorem key_good (s : S) (W : Wf s) (hs : s.stack.length < 48) : Wf (key s) := by
  unfold key
  split
  · exact W.push _ (in1 (in_small (by decide) (by decide))) (by show s.stack.length + 1 ≤ 48; omega)
  · rename_i h
    have r1 := W.rd
    have r2 := W.rd2
    have r3 := W.inp
    have e : wr (s.read + 1) = s.read + 1 := by unfold wr wrap64; omega
    have hb : In (((s.inp.data.toList.getD s.read.toNat 0).toNat : Nat) : Int) := by
      have := (s.inp.data.toList.getD s.read.toNat 0).toNat_lt
      exact in_small (by omega) (by omega)
    refine (W.push _ (in1 hb) (by show s.stack.length + 1 ≤ 48; omega)).read' _ (by rw [e]; omega) (by rw [e]; show s.read + 1 ≤ s.inp.size; omega)
theorem write_good (s s0 : S) (t : ByteArray) (W : Wf s) (h1 : s.mem.length = s0.mem.length) (h2 : s.inp = s0.inp) : Good s0 (write s t) := by
  unfold write
  split
  · exact in_small (by decide) (by decide)
  · rename_i h
    exact ⟨W.out' _ (by rw [ByteArray.size_append]; omega), h1, h2⟩
theorem flow_good (s : S) (c : Int) (W : Wf s) (hc : (44 ≤ c ∧ c ≤ 46) ∨ c = 1) (h1 : (moves c).1 ≤ s.stack.length) (h3 : s.back.length - (moves c).2.1 + (moves c).2.2.2 ≤ 48) : Good s (flow s c) := by
  have hx := W.top
  have ns := W.ns
  have nb := W.nb
  have l1 := popBack_length s
  have l2 := popBack_length (popBack s)
  have : c = 44 ∨ c = 45 ∨ c = 46 ∨ c = 1 := by omega
  rcases this with rfl | rfl | rfl | rfl <;> simp only [show moves 44 = (1, 0, 0, 1) from rfl, show moves 45 = (1, 0, 0, 0) from rfl, show moves 46 = (1, 0, 0, 4) from rfl, show moves 1 = (0, 0, 0, 0) from rfl] at h1 h3 <;> unfold flow <;> simp
  · split
    · exact in_small (by decide) (by decide)
    · exact ⟨(W.pop.lay _ (in1 W.ip) (by show s.back.length + 1 ≤ 48; omega)).ip' _ hx, rfl, rfl⟩
  · split
    · exact ⟨W.pop, rfl, rfl⟩
    · exact hx
  · refine ⟨((W.pop.lay _ (in4 W.ip W.hd (in_small (by omega) (by omega)) (in_small (by decide) (by decide))) (by show s.back.length + 4 ≤ 48; omega)).hd' _ (in_small (by omega) (by omega))).ip' _ hx, rfl, rfl⟩
  · unfold endCatch
    split
    · exact in_small (by decide) (by decide)
    · split
      · exact in_small (by decide) (by decide)
      · rename_i h
        exact ⟨((((W.popBack.popBack.popBack).hd' _ W.popBack.topBack).ip' _ W.popBack.popBack.topBack).push _ (in1 in_zero) (by show s.stack.length + 1 ≤ 48; omega)), rfl, rfl⟩
theorem room_zero {s : S} {c : Int} (h : room s c = 0) : (moves c).1 ≤ s.stack.length ∧ (moves c).2.1 ≤ s.back.length ∧ s.stack.length - (moves c).1 + (moves c).2.2.1 ≤ 48 ∧ s.back.length - (moves c).2.1 + (moves c).2.2.2 ≤ 48 := by
  unfold room at h
  dsimp only at h
  repeat' split at h
  all_goals first | omega | (simp at h)
theorem act_good (s : S) (c arg was : Int) (W : Wf s) (hc : isOp c = true) (hr : room s c = 0) (ha : In arg) (hw : In was) : Good s (act s c arg was) := by
  obtain ⟨h1, hb, h2, h3⟩ := room_zero hr
  have hc2 : 0 ≤ c ∧ c < 48 := by simpa [isOp] using hc
  have ns := W.ns
  unfold act
  by_cases k0 : c = 0
  · rw [if_pos k0]
    exact ⟨(W.ip' _ hw).status' _, rfl, rfl⟩
  rw [if_neg k0]
  by_cases k1 : c = 2
  · rw [if_pos k1]; have h := k1; subst h; rw [show moves 2 = (0, 0, 1, 0) from rfl] at h2; dsimp only at h2
    exact ⟨W.push _ (in1 ha) (by show s.stack.length + 1 ≤ 48; omega), rfl, rfl⟩
  rw [if_neg k1]
  by_cases k2 : c = 4
  · rw [if_pos k2]
    split
    · exact ⟨W.pop.ip' _ ha, rfl, rfl⟩
    · exact ⟨W.pop, rfl, rfl⟩
  rw [if_neg k2]
  by_cases k3 : c = 3
  · rw [if_pos k3]
    exact ⟨W.ip' _ ha, rfl, rfl⟩
  rw [if_neg k3]
  by_cases k4 : c = 5
  · rw [if_pos k4]
    exact ⟨W.popBack.ip' _ W.topBack, rfl, rfl⟩
  rw [if_neg k4]
  by_cases k5 : 6 ≤ c ∧ c ≤ 10
  · rw [if_pos k5]
    have h := k5
    refine ⟨shuffle_wf s c W h h1 h2, ?_, ?_⟩ <;> (unfold shuffle; dsimp only; repeat' split) <;> rfl
  rw [if_neg k5]
  by_cases k6 : 30 ≤ c ∧ c ≤ 32
  · rw [if_pos k6]; have h := k6; exact memory_good s c W h h1
  rw [if_neg k6]
  by_cases k7 : (33 ≤ c ∧ c ≤ 36) ∨ c = 39 ∨ c = 40
  · rw [if_pos k7]
    have h := k7
    refine ⟨backs_wf s c W h h1 hb h2 h3, ?_, ?_⟩ <;> (unfold backs; repeat' split) <;> rfl
  rw [if_neg k7]
  by_cases k8 : c = 37 ∨ c = 38
  · rw [if_pos k8]
    have h := k8
    have hb2 : 2 ≤ s.back.length := by
      rcases h with rfl | rfl
      · exact hb
      · exact hb
    refine ⟨loop_wf s c arg W ha hb2, ?_, ?_⟩ <;> (unfold loop; dsimp only; repeat' split) <;> rfl
  rw [if_neg k8]
  by_cases k9 : c = 41
  · rw [if_pos k9]
    exact write_good _ s _ W.pop rfl rfl
  rw [if_neg k9]
  by_cases k10 : c = 42
  · rw [if_pos k10]
    exact write_good _ s _ W.pop rfl rfl
  rw [if_neg k10]
  by_cases k11 : c = 43
  · rw [if_pos k11]; have h := k11; subst h; rw [show moves 43 = (0, 0, 1, 0) from rfl] at h2; dsimp only at h2
    refine ⟨key_good s W (by omega), ?_, ?_⟩ <;> (unfold key; split) <;> rfl
  rw [if_neg k11]
  by_cases k12 : (44 ≤ c ∧ c ≤ 46) ∨ c = 1
  · rw [if_pos k12]; have h := k12; exact flow_good s c W h h1 h3
  rw [if_neg k12]
  by_cases k13 : c = 47
  · rw [if_pos k13]
    exact ⟨W, rfl, rfl⟩
  · rw [if_neg k13]
    have h11 : 11 ≤ c ∧ c ≤ 29 := by omega
    have hm : 1 ≤ (moves c).1 ∧ (c = 16 ∨ c = 20 ∨ c = 26 ∨ c = 27 ∨ 2 ≤ (moves c).1) := by
      have : c = 11 ∨ c = 12 ∨ c = 13 ∨ c = 14 ∨ c = 15 ∨ c = 16 ∨ c = 17 ∨ c = 18 ∨ c = 19 ∨ c = 20 ∨ c = 21 ∨ c = 22 ∨ c = 23 ∨ c = 24 ∨ c = 25 ∨ c = 26 ∨ c = 27 ∨ c = 28 ∨ c = 29 := by omega
      rcases this with rfl | rfl | rfl | rfl | rfl | rfl | rfl | rfl | rfl | rfl | rfl | rfl | rfl | rfl | rfl | rfl | rfl | rfl | rfl <;> decide
    refine reckon_good s c W (by omega) fun hn => ?_
    rcases hm.2 with rfl | rfl | rfl | rfl | h
    · cases hn
    · cases hn
    · cases hn
    · cases hn
    · omega
theorem load_in {s : S} {a v : Int} (W : Wf s) (h : load s a = some v) : In v ∧ 0 ≤ a ∧ a < s.mem.length := by
  unfold load at h
  split at h
  · injection h with h; subst h; exact ⟨in_getD W.me _, by assumption⟩
  · cases h
theorem exec_good (s : S) (W : Wf s) : Good s (exec s) := by
  have nm := W.nm
  unfold exec
  split
  · exact in_small (by decide) (by decide)
  · rename_i c hc
    obtain ⟨hci, h0, h9⟩ := load_in W hc
    split
    · split
      · exact in_small (by decide) (by decide)
      · exact ⟨(W.lay _ (in1 (in_small (by omega) (by omega))) (by show s.back.length + 1 ≤ 48; omega)).ip' _ hci, rfl, rfl⟩
    · split
      · exact in_small (by decide) (by decide)
      · rename_i hop
        have hop : isOp c = true := by simpa using hop
        have hrm : In (room s c) := by
          unfold room; dsimp only; repeat' split
          all_goals exact in_small (by decide) (by decide)
        split
        · split
          · exact in_small (by decide) (by decide)
          · rename_i arg harg
            split
            · rename_i hr
              exact act_good { s with ip := s.ip + 2 } c arg s.ip (W.ip' _ (in_small (by omega) (by omega))) hop hr (load_in W harg).1 W.ip
            · exact hrm
        · split
          · rename_i hr
            exact act_good { s with ip := s.ip + 1 } c 0 s.ip (W.ip' _ (in_small (by omega) (by omega))) hop hr in_zero W.ip
          · exact hrm
theorem faulty_wf (s : S) (code : Int) (W : Wf s) (hc : In code) : Wf (faulty s code) ∧ (faulty s code).mem.length = s.mem.length ∧ (faulty s code).inp = s.inp := by
  unfold faulty
  split
  · exact ⟨(W.status' 2).code' code, rfl, rfl⟩
  · rename_i n hn
    have hn48 : n < 48 := by
      unfold caught at hn
      repeat' split at hn
      all_goals first | (cases hn; done) | (injection hn with hn; omega)
    refine ⟨?_, rfl, rfl⟩
    have nb := W.nb
    refine (((W.ip' _ (in_getD W.bk _)).hd' _ (in_getD W.bk _)).back' _ (fun x hx => W.bk x (List.mem_of_mem_take hx)) (by simp; omega)).stack' _ (fun x hx => ?_) ?_
    · simp only [List.mem_append, List.mem_replicate, List.mem_singleton] at hx
      rcases hx with (hx | ⟨_, rfl⟩) | rfl
      · exact W.st x (List.mem_of_mem_take hx)
      · exact in_zero
      · exact hc
    · simp only [List.length_append, List.length_take, List.length_replicate, List.length_singleton]
      omega
theorem advance_wf (s : S) (W : Wf s) : Wf (advance s) ∧ (advance s).mem.length = s.mem.length ∧ (advance s).inp = s.inp := by
  have h := exec_good s W
  unfold advance
  split
  · rename_i s' he; rw [he] at h; exact h
  · rename_i code threw he
    rw [he] at h
    cases threw
    · exact faulty_wf s code W h
    · exact faulty_wf (pop s) code W.pop h
theorem run_wf : ∀ (n : Nat) (s : S), Wf s → Wf (run n s).1 ∧ (run n s).1.mem.length = s.mem.length ∧ (run n s).1.inp = s.inp ∧ (run n s).2 ≤ n
  | 0, s, W => ⟨W, rfl, rfl, Nat.le_refl _⟩
  | n + 1, s, W => by
    unfold run
    split
    · obtain ⟨W1, h1, h2⟩ := advance_wf s W
      obtain ⟨W2, h3, h4, h5⟩ := run_wf n _ W1
      exact ⟨W2, h3.trans h1, h4.trans h2, by omega⟩
    · exact ⟨W, rfl, rfl, Nat.le_refl _⟩
end Go.Proofs.YtompdfpjmdnhoabGreatDoor.Mc
namespace Go.Proofs.YtompdfpjmdnhoabGreatDoor.Mc
open Go.RowKit
structure MT where
  s : S
  out : List (List UInt8)
  cnt : Nat
  bs : List (Option Bool)
  log : List (Bool × Bool)
inductive RT where
  | ok (t : MT)
  | bad (code : Int) (threw : Bool) (t : MT)
def MT.real (t : MT) : S := { t.s with out := ⟨t.out.flatten.toArray⟩ }
def Valid (l : List (Bool × Bool)) : Prop := ∀ p ∈ l, p.1 = p.2
def ask (t : MT) (real : Bool) : Option (Bool × MT) :=
  match t.bs with
  | [] => some (real, t)
  | none :: r => some (real, { t with bs := r })
  | some b :: r => some (b, { t with bs := r, log := (real, b) :: t.log })
def writeT (t : MT) (p : List UInt8) (n : Nat) : Option RT := if t.cnt + n ≤ 2000 then some (.ok { t with s := pop t.s, out := t.out ++ [p], cnt := t.cnt + n }) else none
def liftR (t : MT) : Rslt → RT
  | .ok s => .ok { t with s := s }
  | .bad c th => .bad c th t
def putS (t : MT) (s : S) : MT := { t with s := s }
def actT (t : MT) (c arg was : Int) : Option RT :=
  if c = 4 then (ask t (decide (top t.s.stack = 0))).map fun q => .ok (if q.1 = true then putS q.2 { pop t.s with ip := arg } else putS q.2 (pop t.s))
  else if c = 23 then (ask t (decide (top (pop t.s).stack = top t.s.stack))).map fun q => .ok (putS q.2 (push (pop (pop t.s)) [flag q.1]))
  else if c = 24 then (ask t (decide (top (pop t.s).stack < top t.s.stack))).map fun q => .ok (putS q.2 (push (pop (pop t.s)) [flag q.1]))
  else if c = 26 then (ask t (decide (top t.s.stack = 0))).map fun q => .ok (putS q.2 (push (pop t.s) [flag q.1]))
  else if c = 27 then (ask t (decide (top t.s.stack < 0))).map fun q => .ok (putS q.2 (push (pop t.s) [flag q.1]))
  else if c = 45 then (ask t (decide (top t.s.stack = 0))).map fun q => if q.1 = true then .ok (putS q.2 (pop t.s)) else .bad (top t.s.stack) true q.2
  else if c = 41 then writeT t [UInt8.ofNat ((top t.s.stack).emod 256).toNat] 1
  else if c = 42 then writeT t (Dg.putV (top t.s.stack) 10 ++ [32]) 66
  else some (liftR t (act t.s c arg was))
def execT (t : MT) : Option RT :=
  match load t.s t.s.ip with
  | none => some (.bad (-9) false t)
  | some c =>
    if 64 ≤ c then (if 48 ≤ t.s.back.length then some (.bad (-5) false t) else some (.ok (putS t { lay t.s [t.s.ip + 1] with ip := c })))
    else if isOp c = false then some (.bad (-13) false t)
    else if hasArg c = true then
      match load t.s (t.s.ip + 1) with
      | none => some (.bad (-9) false t)
      | some arg => if room t.s c = 0 then actT (putS t { t.s with ip := t.s.ip + 2 }) c arg t.s.ip else some (.bad (room t.s c) false t)
    else if room t.s c = 0 then actT (putS t { t.s with ip := t.s.ip + 1 }) c 0 t.s.ip else some (.bad (room t.s c) false t)
def advanceT (t : MT) : Option MT :=
  match execT t with
  | none => none
  | some (.ok t') => some t'
  | some (.bad code threw t') => some (putS t' (faulty (if threw then pop t.s else t.s) code))
def runT : Nat → MT → Option (MT × Nat)
  | 0, t => some (t, 0)
  | n + 1, t => if t.s.status = 0 then (advanceT t).bind (runT n) else some (t, n + 1)
def MT.Ok (t : MT) : Prop := Wf t.real ∧ t.out.flatten.length ≤ t.cnt ∧ t.cnt ≤ 2000
def After (t t' : MT) : Prop := ∃ l, t'.log = l ++ t.log
theorem After.refl (t : MT) : After t t := ⟨[], rfl⟩
theorem After.trans {a b c : MT} (h : After a b) (k : After b c) : After a c := by
  obtain ⟨l, h⟩ := h; obtain ⟨m, k⟩ := k; exact ⟨m ++ l, by rw [k, h, List.append_assoc]⟩
theorem After.valid {a b : MT} (h : After a b) (v : Valid b.log) : Valid a.log := by
  obtain ⟨l, h⟩ := h; rw [h] at v; exact fun p hp => v p (List.mem_append_right _ hp)
theorem ask_ok {t : MT} {r : Bool} {q : Bool × MT} (h : ask t r = some q) : After t q.2 ∧ q.2.s = t.s ∧ q.2.out = t.out ∧ q.2.cnt = t.cnt ∧ (Valid q.2.log → q.1 = r) := by
  unfold ask at h
  split at h
  · injection h with h; subst h; exact ⟨After.refl _, rfl, rfl, rfl, fun _ => rfl⟩
  · injection h with h; subst h; exact ⟨⟨[], rfl⟩, rfl, rfl, rfl, fun _ => rfl⟩
  · rename_i b r' hb
    injection h with h; subst h
    exact ⟨⟨[(r, b)], rfl⟩, rfl, rfl, rfl, fun v => (v (r, b) (List.mem_cons_self ..)).symm⟩
def RT.real : RT → Rslt
  | .ok t => .ok t.real
  | .bad c th _ => .bad c th
def RT.t : RT → MT
  | .ok t => t
  | .bad _ _ t => t
structure Fits (t : MT) (r : RT) (R : Rslt) : Prop where
  after : After t r.t
  len : r.t.out.flatten.length ≤ r.t.cnt ∧ r.t.cnt ≤ 2000
  bad : ∀ c th t', r = .bad c th t' → t'.out = t.out ∧ t'.s.mem = t.s.mem
  is : Valid r.t.log → R = r.real
def outS (x : ByteArray) (s : S) : S := { s with out := x }
def outR (x : ByteArray) : Rslt → Rslt
  | .ok s => .ok (outS x s)
  | .bad c t => .bad c t
theorem real_eq (t : MT) : t.real = outS ⟨t.out.flatten.toArray⟩ t.s := rfl
theorem act_out (x : ByteArray) (s : S) (c arg was : Int) (h41 : c ≠ 41) (h42 : c ≠ 42) : act (outS x s) c arg was = outR x (act s c arg was) := by
  have e1 : (outS x s).stack = s.stack := rfl
  have e2 : (outS x s).back = s.back := rfl
  have e3 : (outS x s).mem = s.mem := rfl
  have e4 : (outS x s).ip = s.ip := rfl
  have e5 : (outS x s).handler = s.handler := rfl
  have e6 : (outS x s).inp = s.inp := rfl
  have e7 : (outS x s).read = s.read := rfl
  unfold act
  by_cases k0 : c = 0
  · rw [if_pos k0, if_pos k0]
    rfl
  rw [if_neg k0, if_neg k0]
  by_cases k1 : c = 2
  · rw [if_pos k1, if_pos k1]
    rfl
  rw [if_neg k1, if_neg k1]
  by_cases k2 : c = 4
  · rw [if_pos k2, if_pos k2]
    rw [e1]; split <;> rfl
  rw [if_neg k2, if_neg k2]
  by_cases k3 : c = 3
  · rw [if_pos k3, if_pos k3]
    rfl
  rw [if_neg k3, if_neg k3]
  by_cases k4 : c = 5
  · rw [if_pos k4, if_pos k4]
    rfl
  rw [if_neg k4, if_neg k4]
  by_cases k5 : 6 ≤ c ∧ c ≤ 10
  · rw [if_pos k5, if_pos k5]
    show Rslt.ok (shuffle (outS x s) c) = .ok (outS x (shuffle s c))
    congr 1
    unfold shuffle
    dsimp only
    repeat' split
    all_goals rfl
  rw [if_neg k5, if_neg k5]
  by_cases k6 : 30 ≤ c ∧ c ≤ 32
  · rw [if_pos k6, if_pos k6]
    unfold memory
    dsimp only
    have : load (outS x s) (top (outS x s).stack) = load s (top s.stack) := rfl
    rw [this]
    split
    · rfl
    · split <;> rfl
  rw [if_neg k6, if_neg k6]
  by_cases k7 : (33 ≤ c ∧ c ≤ 36) ∨ c = 39 ∨ c = 40
  · rw [if_pos k7, if_pos k7]
    show Rslt.ok (backs (outS x s) c) = .ok (outS x (backs s c))
    congr 1
    unfold backs
    repeat' split
    all_goals rfl
  rw [if_neg k7, if_neg k7]
  by_cases k8 : c = 37 ∨ c = 38
  · rw [if_pos k8, if_pos k8]
    show Rslt.ok (loop (outS x s) c arg) = .ok (outS x (loop s c arg))
    congr 1
    unfold loop
    dsimp only
    have p1 : (popBack (outS x s)).back = (popBack s).back := rfl
    rw [e1, e2, p1]
    split
    · split <;> rfl
    · split <;> rfl
  rw [if_neg k8, if_neg k8]
  rw [if_neg h41, if_neg h41, if_neg h42, if_neg h42]
  by_cases k9 : c = 43
  · rw [if_pos k9, if_pos k9]
    show Rslt.ok (key (outS x s)) = .ok (outS x (key s))
    congr 1
    unfold key
    rw [e6, e7]
    split <;> rfl
  rw [if_neg k9, if_neg k9]
  by_cases k10 : (44 ≤ c ∧ c ≤ 46) ∨ c = 1
  · rw [if_pos k10, if_pos k10]
    unfold flow
    split
    · rw [e1, e3]; split <;> rfl
    split
    · rw [e1]; split <;> rfl
    split
    · rfl
    · unfold endCatch
      rw [e1, e2, e5]
      split
      · rfl
      · split <;> rfl
  rw [if_neg k10, if_neg k10]
  by_cases k11 : c = 47
  · rw [if_pos k11, if_pos k11]
    rfl
  · rw [if_neg k11, if_neg k11]
    unfold reckon
    have p1 : (pop (outS x s)).stack = (pop s).stack := rfl
    rw [e1, p1]
    split
    · rfl
    · split <;> rfl
theorem write_fits {t : MT} {p : List UInt8} {n : Nat} {r : RT} (h : writeT t p n = some r) (hn : p.length ≤ n) (hl : t.out.flatten.length ≤ t.cnt) : Fits t r (write (pop t.real) ⟨p.toArray⟩) := by
  unfold writeT at h
  split at h
  · rename_i h2
    injection h with h
    subst h
    have hf : (t.out ++ [p]).flatten = t.out.flatten ++ p := by simp
    refine ⟨⟨[], rfl⟩, ⟨?_, h2⟩, fun _ _ _ h => (by cases h), fun _ => ?_⟩
    · show (t.out ++ [p]).flatten.length ≤ t.cnt + n
      rw [hf, List.length_append]; omega
    · unfold write
      have e1 : (pop t.real).out.size = t.out.flatten.length := by show (ByteArray.mk t.out.flatten.toArray).size = _; simp [ByteArray.size]
      have e2 : (ByteArray.mk p.toArray).size = p.length := by simp [ByteArray.size]
      rw [e1, e2, if_neg (by omega)]
      show Rslt.ok _ = Rslt.ok _
      congr 1
      have e3 : (ByteArray.mk t.out.flatten.toArray) ++ (ByteArray.mk p.toArray) = ⟨(t.out ++ [p]).flatten.toArray⟩ := by
        rw [hf]
        apply ByteArray.ext
        rw [ByteArray.data_append]
        simp
      show ({ pop t.real with out := (ByteArray.mk t.out.flatten.toArray) ++ (ByteArray.mk p.toArray) } : S) = _
      rw [e3]
      rfl
  · cases h
theorem putV_len (v : Int) (h : In v) : (Dg.putV v 10).length ≤ 65 := by
  unfold Dg.putV
  rw [if_neg (by decide)]
  have := Dg.putL_len 10 (by decide) 64 v.natAbs (by unfold In at h; have : (2 : Nat) ^ 64 = 18446744073709551616 := by decide
                                                     omega)
  rw [List.length_append]
  have h2 : (if v < 0 then [(45 : UInt8)] else []).length ≤ 1 := by split <;> simp
  have e : (10 : Int).toNat = 10 := rfl
  rw [e]
  omega
theorem fits_of {t : MT} {q : Bool × MT} {r : RT} {R : Rslt} (hq : After t q.2 ∧ q.2.s = t.s ∧ q.2.out = t.out ∧ q.2.cnt = t.cnt) (hl : t.out.flatten.length ≤ t.cnt ∧ t.cnt ≤ 2000)
    (hr : (∃ s', r = .ok (putS q.2 s')) ∨ ∃ c th, r = .bad c th q.2) (is : Valid q.2.log → R = r.real) : Fits t r R := by
  obtain ⟨h1, h2, h3, h4⟩ := hq
  rcases hr with ⟨s', rfl⟩ | ⟨c, th, rfl⟩
  · exact ⟨h1, by show q.2.out.flatten.length ≤ q.2.cnt ∧ q.2.cnt ≤ 2000; rw [h3, h4]; exact hl, fun _ _ _ h => (by cases h), is⟩
  · exact ⟨h1, by show q.2.out.flatten.length ≤ q.2.cnt ∧ q.2.cnt ≤ 2000; rw [h3, h4]; exact hl, fun _ _ _ h => (by injection h with _ _ h; subst h; exact ⟨h3, by rw [h2]⟩), is⟩
theorem real_put (t : MT) (s : S) : (putS t s).real = outS ⟨t.out.flatten.toArray⟩ s := rfl
theorem act_fits (t : MT) (c arg was : Int) (r : RT) (h : actT t c arg was = some r) (ok : t.out.flatten.length ≤ t.cnt ∧ t.cnt ≤ 2000) (hin : In (top t.s.stack)) : Fits t r (act t.real c arg was) := by
  unfold actT at h
  split at h
  · rename_i hc; subst hc
    simp only [Option.map_eq_some_iff] at h
    obtain ⟨q, hq, rfl⟩ := h
    obtain ⟨a1, a2, a3, a4, a5⟩ := ask_ok hq
    refine fits_of ⟨a1, a2, a3, a4⟩ ok (.inl ?_) fun v => ?_
    · split <;> exact ⟨_, rfl⟩
    · rw [a5 v]
      have e : act t.real 4 arg was = .ok (if top t.s.stack = 0 then { pop t.real with ip := arg } else pop t.real) := rfl
      rw [e]
      by_cases h0 : top t.s.stack = 0
      · rw [if_pos h0, if_pos (by simpa using h0)]; unfold RT.real; simp only; rw [real_put, a3]; rfl
      · rw [if_neg h0, if_neg (by simpa using h0)]; unfold RT.real; simp only; rw [real_put, a3]; rfl
  split at h
  · rename_i hc; subst hc
    simp only [Option.map_eq_some_iff] at h
    obtain ⟨q, hq, rfl⟩ := h
    obtain ⟨a1, a2, a3, a4, a5⟩ := ask_ok hq
    refine fits_of ⟨a1, a2, a3, a4⟩ ok (.inl ⟨_, rfl⟩) fun v => ?_
    rw [a5 v]; unfold RT.real; simp only; rw [real_put, a3]; rfl
  split at h
  · rename_i hc; subst hc
    simp only [Option.map_eq_some_iff] at h
    obtain ⟨q, hq, rfl⟩ := h
    obtain ⟨a1, a2, a3, a4, a5⟩ := ask_ok hq
    refine fits_of ⟨a1, a2, a3, a4⟩ ok (.inl ⟨_, rfl⟩) fun v => ?_
    rw [a5 v]; unfold RT.real; simp only; rw [real_put, a3]; rfl
  split at h
  · rename_i hc; subst hc
    simp only [Option.map_eq_some_iff] at h
    obtain ⟨q, hq, rfl⟩ := h
    obtain ⟨a1, a2, a3, a4, a5⟩ := ask_ok hq
    refine fits_of ⟨a1, a2, a3, a4⟩ ok (.inl ⟨_, rfl⟩) fun v => ?_
    rw [a5 v]; unfold RT.real; simp only; rw [real_put, a3]; rfl
  split at h
  · rename_i hc; subst hc
    simp only [Option.map_eq_some_iff] at h
    obtain ⟨q, hq, rfl⟩ := h
    obtain ⟨a1, a2, a3, a4, a5⟩ := ask_ok hq
    refine fits_of ⟨a1, a2, a3, a4⟩ ok (.inl ⟨_, rfl⟩) fun v => ?_
    rw [a5 v]; unfold RT.real; simp only; rw [real_put, a3]; rfl
  split at h
  · rename_i hc; subst hc
    simp only [Option.map_eq_some_iff] at h
    obtain ⟨q, hq, rfl⟩ := h
    obtain ⟨a1, a2, a3, a4, a5⟩ := ask_ok hq
    refine fits_of ⟨a1, a2, a3, a4⟩ ok ?_ fun v => ?_
    · split
      · exact .inl ⟨_, rfl⟩
      · exact .inr ⟨_, _, rfl⟩
    · rw [a5 v]
      have e : act t.real 45 arg was = (if top t.s.stack = 0 then .ok (pop t.real) else .bad (top t.s.stack) true) := rfl
      rw [e]
      by_cases h0 : top t.s.stack = 0
      · rw [if_pos h0, if_pos (by simpa using h0)]; unfold RT.real; simp only; rw [real_put, a3]; rfl
      · rw [if_neg h0, if_neg (by simpa using h0)]; rfl
  split at h
  · rename_i hc; subst hc
    exact write_fits h (by simp) ok.1
  split at h
  · rename_i hc; subst hc
    have hp := putV_len _ hin
    have e : act t.real 42 arg was = write (pop t.real) ⟨(Dg.putV (top t.s.stack) 10 ++ [32]).toArray⟩ := by
      show write (pop t.real) ((ByteArray.mk (Dg.putV (top t.s.stack) 10).toArray) ++ ⟨#[32]⟩) = _
      have e2 : ((ByteArray.mk (Dg.putV (top t.s.stack) 10).toArray) ++ ⟨#[32]⟩) = ⟨(Dg.putV (top t.s.stack) 10 ++ [32]).toArray⟩ := by
        apply ByteArray.ext
        rw [ByteArray.data_append]
        simp
      rw [e2]
    rw [e]
    exact write_fits h (by simp; omega) ok.1
  · injection h with h
    subst h
    rename_i h41 h42
    rw [real_eq, act_out _ _ _ _ _ h41 h42]
    cases hR : act t.s c arg was with
    | ok s' => exact ⟨⟨[], rfl⟩, ok, fun _ _ _ h => (by cases h), fun _ => rfl⟩
    | bad cc th => exact ⟨⟨[], rfl⟩, ok, fun _ _ _ h => (by injection h with _ _ h; subst h; exact ⟨rfl, rfl⟩), fun _ => rfl⟩
theorem exec_fits (t : MT) (r : RT) (h : execT t = some r) (ok : t.Ok) : Fits t r (exec t.real) := by
  have ok2 := ok.2
  unfold execT at h
  unfold exec
  have hl : ∀ a, load t.real a = load t.s a := fun _ => rfl
  have hip : t.real.ip = t.s.ip := rfl
  have bd : ∀ c th, Fits t (.bad c th t) (.bad c th) := fun c th => ⟨After.refl _, ok2, fun _ _ _ h => (by injection h with _ _ h; subst h; exact ⟨rfl, rfl⟩), fun _ => rfl⟩
  have hin : In (top t.s.stack) := in_top ok.1.st
  rw [hip, hl]
  cases hc : load t.s t.s.ip with
  | none => rw [hc] at h; injection h with h; subst h; exact bd _ _
  | some c =>
    rw [hc] at h
    dsimp only at h ⊢
    by_cases h64 : 64 ≤ c
    · rw [if_pos h64] at h ⊢
      have hb : t.real.back.length = t.s.back.length := rfl
      rw [hb]
      by_cases h48 : 48 ≤ t.s.back.length
      · rw [if_pos h48] at h ⊢; injection h with h; subst h; exact bd _ _
      · rw [if_neg h48] at h ⊢; injection h with h; subst h
        exact ⟨⟨[], rfl⟩, ok2, fun _ _ _ h => (by cases h), fun _ => rfl⟩
    · rw [if_neg h64] at h ⊢
      by_cases hop : isOp c = false
      · rw [if_pos hop] at h ⊢; injection h with h; subst h; exact bd _ _
      · rw [if_neg hop] at h ⊢
        have hrm : room t.real c = room t.s c := rfl
        rw [hrm]
        have step : ∀ arg n, actT (putS t { t.s with ip := t.s.ip + n }) c arg t.s.ip = some r → Fits t r (act { t.real with ip := t.s.ip + n } c arg t.s.ip) := by
          intro arg n h
          have F := act_fits _ c arg t.s.ip r h ok2 hin
          exact ⟨F.after, F.len, F.bad, F.is⟩
        by_cases ha : hasArg c = true
        · rw [if_pos ha] at h ⊢
          rw [hl]
          cases hg : load t.s (t.s.ip + 1) with
          | none => rw [hg] at h; injection h with h; subst h; exact bd _ _
          | some arg =>
            rw [hg] at h
            dsimp only at h ⊢
            by_cases hr : room t.s c = 0
            · rw [if_pos hr] at h ⊢; exact step arg 2 h
            · rw [if_neg hr] at h ⊢; injection h with h; subst h; exact bd _ _
        · rw [if_neg ha] at h ⊢
          by_cases hr : room t.s c = 0
          · rw [if_pos hr] at h ⊢; exact step 0 1 h
          · rw [if_neg hr] at h ⊢; injection h with h; subst h; exact bd _ _
theorem faulty_out (x : ByteArray) (s : S) (c : Int) : faulty (outS x s) c = outS x (faulty s c) := by
  unfold faulty
  have : caught (outS x s) = caught s := rfl
  rw [this]
  split <;> rfl
theorem advance_fits (t t' : MT) (h : advanceT t = some t') (ok : t.Ok) : After t t' ∧ (t'.out.flatten.length ≤ t'.cnt ∧ t'.cnt ≤ 2000) ∧ (Valid t'.log → advance t.real = t'.real) := by
  unfold advanceT at h
  cases he : execT t with
  | none => rw [he] at h; cases h
  | some r =>
    have F := exec_fits t r he ok
    rw [he] at h
    cases r with
    | ok t1 =>
      injection h with h; subst h
      refine ⟨F.after, F.len, fun v => ?_⟩
      unfold advance
      rw [F.is v]
      rfl
    | bad c th t1 =>
      injection h with h; subst h
      obtain ⟨b1, b2⟩ := F.bad _ _ _ rfl
      refine ⟨F.after, F.len, fun v => ?_⟩
      unfold advance
      rw [F.is v]
      show faulty (if th then pop t.real else t.real) c = _
      rw [real_put, b1, ← faulty_out]
      cases th <;> rfl
theorem ok_next {t t' : MT} (ok : t.Ok) (h : advance t.real = t'.real) (l : t'.out.flatten.length ≤ t'.cnt ∧ t'.cnt ≤ 2000) : t'.Ok := ⟨h ▸ (advance_wf _ ok.1).1, l⟩
theorem act_after {t : MT} {c arg was : Int} {r : RT} (h : actT t c arg was = some r) : After t r.t := by
  have asked : ∀ (b : Bool) (f : Bool × MT → RT), (∀ q, (f q).t.log = q.2.log) → (ask t b).map f = some r → After t r.t := by
    intro b f hf h
    simp only [Option.map_eq_some_iff] at h
    obtain ⟨q, hq, rfl⟩ := h
    obtain ⟨l, hl⟩ := (ask_ok hq).1
    exact ⟨l, (hf q).trans hl⟩
  have wrote : ∀ p n, writeT t p n = some r → After t r.t := by
    intro p n h
    unfold writeT at h
    split at h
    · injection h with h; subst h; exact ⟨[], rfl⟩
    · cases h
  unfold actT at h
  by_cases k0 : c = 4
  · rw [if_pos k0] at h; exact asked _ _ (fun q => by dsimp only; split <;> rfl) h
  rw [if_neg k0] at h
  by_cases k1 : c = 23
  · rw [if_pos k1] at h; exact asked _ _ (fun q => rfl) h
  rw [if_neg k1] at h
  by_cases k2 : c = 24
  · rw [if_pos k2] at h; exact asked _ _ (fun q => rfl) h
  rw [if_neg k2] at h
  by_cases k3 : c = 26
  · rw [if_pos k3] at h; exact asked _ _ (fun q => rfl) h
  rw [if_neg k3] at h
  by_cases k4 : c = 27
  · rw [if_pos k4] at h; exact asked _ _ (fun q => rfl) h
  rw [if_neg k4] at h
  by_cases k5 : c = 45
  · rw [if_pos k5] at h; exact asked _ _ (fun q => by split <;> rfl) h
  rw [if_neg k5] at h
  by_cases k6 : c = 41
  · rw [if_pos k6] at h; exact wrote _ _ h
  rw [if_neg k6] at h
  by_cases k7 : c = 42
  · rw [if_pos k7] at h; exact wrote _ _ h
  rw [if_neg k7] at h
  injection h with h
  subst h
  cases act t.s c arg was <;> exact ⟨[], rfl⟩
theorem exec_after {t : MT} {r : RT} (h : execT t = some r) : After t r.t := by
  have bd : ∀ c th, some (RT.bad c th t) = some r → After t r.t := fun c th h => by injection h with h; subst h; exact After.refl _
  unfold execT at h
  cases hc : load t.s t.s.ip with
  | none => rw [hc] at h; exact bd _ _ h
  | some c =>
    rw [hc] at h
    dsimp only at h
    by_cases h64 : 64 ≤ c
    · rw [if_pos h64] at h
      by_cases h48 : 48 ≤ t.s.back.length
      · rw [if_pos h48] at h; exact bd _ _ h
      · rw [if_neg h48] at h; injection h with h; subst h; exact ⟨[], rfl⟩
    · rw [if_neg h64] at h
      by_cases hop : isOp c = false
      · rw [if_pos hop] at h; exact bd _ _ h
      · rw [if_neg hop] at h
        by_cases ha : hasArg c = true
        · rw [if_pos ha] at h
          cases hg : load t.s (t.s.ip + 1) with
          | none => rw [hg] at h; exact bd _ _ h
          | some arg =>
            rw [hg] at h
            dsimp only at h
            by_cases hr : room t.s c = 0
            · rw [if_pos hr] at h; obtain ⟨l, hl⟩ := act_after h; exact ⟨l, hl⟩
            · rw [if_neg hr] at h; exact bd _ _ h
        · rw [if_neg ha] at h
          by_cases hr : room t.s c = 0
          · rw [if_pos hr] at h; obtain ⟨l, hl⟩ := act_after h; exact ⟨l, hl⟩
          · rw [if_neg hr] at h; exact bd _ _ h
theorem advance_after {t t' : MT} (h : advanceT t = some t') : After t t' := by
  unfold advanceT at h
  split at h
  · cases h
  · rename_i he; injection h with h; subst h; exact exec_after he
  · rename_i he; injection h with h; subst h; exact exec_after he
theorem run_fits : ∀ (n : Nat) (t : MT) (q : MT × Nat), runT n t = some q → t.Ok → Valid q.1.log → After t q.1 ∧ q.1.Ok ∧ run n t.real = (q.1.real, q.2)
  | 0, t, q, h, ok, v => by
    injection h with h; subst h; exact ⟨After.refl _, ok, rfl⟩
  | n + 1, t, q, h, ok, v => by
    unfold runT at h
    unfold run
    have hs : t.real.status = t.s.status := rfl
    rw [hs]
    by_cases h0 : t.s.status = 0
    · rw [if_pos h0] at h ⊢
      cases ha : advanceT t with
      | none => rw [ha] at h; cases h
      | some t1 =>
        rw [ha] at h
        dsimp only [Option.bind_some] at h
        obtain ⟨a1, l1, e1⟩ := advance_fits t t1 ha ok
        have back : ∀ (n : Nat) (t : MT) (q : MT × Nat), runT n t = some q → After t q.1 := by
          intro n
          induction n with
          | zero => intro t q h; injection h with h; subst h; exact After.refl _
          | succ n ih =>
            intro t q h
            unfold runT at h
            split at h
            · cases hb : advanceT t with
              | none => rw [hb] at h; cases h
              | some t2 =>
                rw [hb] at h
                have k := ih t2 q h
                exact After.trans (advance_after hb) k
            · injection h with h; subst h; exact After.refl _
        have v1 := (back n t1 q h).valid v
        have e := e1 v1
        rw [e]
        obtain ⟨b1, b2, b3⟩ := run_fits n t1 q h (ok_next ok e l1) v
        exact ⟨a1.trans b1, b2, b3⟩
    · rw [if_neg h0] at h ⊢
      injection h with h; subst h
      exact ⟨After.refl _, ok, rfl⟩
end Go.Proofs.YtompdfpjmdnhoabGreatDoor.Mc
