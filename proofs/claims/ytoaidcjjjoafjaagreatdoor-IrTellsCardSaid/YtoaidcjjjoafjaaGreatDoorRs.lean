/-
  What a call owns: structs, slices, maps, each in a block of its own; how that goes on from step to step.
-/
import Derived.Test.YtoaidcjjjoafjaaGreatDoorBase
namespace Go.Proofs.YtoaidcjjjoafjaaGreatDoor.Rs
open Go.RowKit

/-- The block that a slice may write into: none, if it has no room. -/
def roomBlock : Value → Option Nat
  | .slice (some a) _ (_ + 1) => some a.block
  | _ => none

/-- A slice of the call's own: its block is its own, or it has no room, wherever it points. -/
def Row (w : World) (B : Nat) (e : TypeId) (sz : Nat) (v : Value) (n : Nat) (xs : List Value) : Prop :=
  xs.length = n * sz ∧ ((n = 0 ∧ ∃ A, v = .slice A 0 0) ∨
    ∃ g c cur, v = .slice (some ⟨g, 0, none⟩) n (c + 1) ∧ B ≤ g ∧ w.heap[g]? = some (.cells cur e (0, 0)) ∧ n ≤ c + 1 ∧ c + 1 ≤ maxLen ∧ cur.size = (c + 1) * sz ∧ cur.toList.take (n * sz) = xs)

section
variable {w w' : World} {B : Nat} {e : TypeId} {sz n : Nat} {v : Value} {xs : List Value}
theorem Row.nil (w : World) (B : Nat) (e : TypeId) (sz : Nat) (A : Option Addr) : Row w B e sz (.slice A 0 0) 0 [] := ⟨by simp, .inl ⟨rfl, A, rfl⟩⟩
theorem Row.of_own (h : w.ownsRow B e sz v n xs) : Row w B e sz v n xs := by
  refine ⟨h.1, ?_⟩
  rcases h.2 with ⟨rfl, rfl⟩ | ⟨g, cap, cur, rfl, hb, hg, hn, hm, hs, ht⟩
  · exact .inl ⟨rfl, none, rfl⟩
  · cases cap with
    | zero => exact .inl ⟨by omega, _, by rw [show n = 0 by omega]⟩
    | succ c => exact .inr ⟨g, c, cur, rfl, hb, hg, hn, hm, hs, ht⟩
theorem Row.to_own (h : Row w B e sz v n xs) : w.ownsRow B e sz v n xs ∨ (n = 0 ∧ xs = [] ∧ ∃ A, v = .slice A 0 0) := by
  rcases h.2 with ⟨rfl, A, rfl⟩ | ⟨g, c, cur, rfl, hb, hg, hn, hm, hs, ht⟩
  · exact .inr ⟨rfl, List.eq_nil_of_length_eq_zero (by simpa using h.1), A, rfl⟩
  · exact .inl ⟨h.1, .inr ⟨g, c + 1, cur, rfl, hb, hg, hn, hm, hs, ht⟩⟩
theorem Row.slice (h : Row w B e sz v n xs) : ∃ A c, v = .slice A n c := by
  rcases h.2 with ⟨rfl, A, rfl⟩ | ⟨g, c, cur, rfl, _⟩
  · exact ⟨A, 0, rfl⟩
  · exact ⟨_, _, rfl⟩
theorem Row.lt (h : Row w B e sz v n xs) : ∀ k, roomBlock v = some k → B ≤ k ∧ k < w.heap.size := by
  intro k hk
  rcases h.2 with ⟨rfl, A, rfl⟩ | ⟨g, c, cur, rfl, hb, hg, _⟩
  · cases A <;> simp [roomBlock] at hk
  · simp [roomBlock] at hk
    subst hk
    exact ⟨hb, (Array.getElem?_eq_some_iff.1 hg).1⟩
theorem Row.touch {S : Nat → Prop} (h : Row w B e sz v n xs) (T : Touch w w' S) (hS : ∀ k, roomBlock v = some k → ¬ S k) : Row w' B e sz v n xs := by
  refine ⟨h.1, ?_⟩
  rcases h.2 with h0 | ⟨g, c, cur, rfl, hb, hg, rest⟩
  · exact .inl h0
  · exact .inr ⟨g, c, cur, rfl, hb, (T.block g (Array.getElem?_eq_some_iff.1 hg).1 (hS g rfl)).trans hg, rest⟩
theorem Row.mono {B' : Nat} (h : Row w B e sz v n xs) (hB : B' ≤ B) : Row w B' e sz v n xs :=
  ⟨h.1, h.2.imp id fun ⟨g, c, cur, h1, hb, r⟩ => ⟨g, c, cur, h1, Nat.le_trans hB hb, r⟩⟩
theorem Row.reads {A : Option Addr} {c : Nat} (h : Row w B e sz (.slice A n c) n xs) : Reads w w.heap.size sz A n xs := by
  rcases h.to_own with ho | ⟨rfl, rfl, _⟩
  · exact Reads.of_own ho
  · exact ⟨by simp, fun h0 => absurd h0 (by omega)⟩
/-- A shorter piece from its beginning. -/
theorem Row.take {A : Option Addr} {c k : Nat} (h : Row w B e sz (.slice A n c) n xs) (hk : k ≤ n) : Row w B e sz (.slice A k c) k (xs.take (k * sz)) := by
  have hkn : k * sz ≤ n * sz := Nat.mul_le_mul_right _ hk
  refine ⟨by rw [List.length_take, h.1]; omega, ?_⟩
  rcases h.2 with ⟨rfl, A', hv⟩ | ⟨g, c', cur, hv, hb, hg, hn, hm, hs, ht⟩
  · injection hv with h1 _ h3
    subst h1 h3
    obtain rfl : k = 0 := by omega
    exact .inl ⟨rfl, _, rfl⟩
  · injection hv with h1 _ h3
    subst h1 h3
    exact .inr ⟨g, c', cur, rfl, hb, hg, by omega, hm, hs, by rw [← ht, List.take_take, Nat.min_eq_left hkn]⟩
/-- Where there is a cell, the block is its own. -/
theorem Row.form (h : Row w B e sz v n xs) (hn : 0 < n) : ∃ g c, v = .slice (some ⟨g, 0, none⟩) n (c + 1) ∧ n ≤ c + 1 ∧ B ≤ g ∧ g < w.heap.size ∧ (∀ i, i < n * sz → w.cell? ⟨g, i, none⟩ = xs[i]?) ∧ ∀ i, w.frozen? ⟨g, i, none⟩ = false := by
  rcases h.2 with ⟨rfl, _⟩ | ⟨g, c, cur, rfl, hb, hg, hc, hm, hs, ht⟩
  · omega
  · refine ⟨g, c, rfl, hc, hb, (Array.getElem?_eq_some_iff.1 hg).1, fun i hi => ?_, fun i => by simp [World.frozen?, hg]⟩
    rw [cell_of_row w g i cur e (0, 0) hg, ← ht, List.getElem?_take, if_pos hi]
    simp
theorem Row.bound (h : Row w B e sz v n xs) : n ≤ maxLen := by
  rcases h.2 with ⟨rfl, _⟩ | ⟨g, c, cur, rfl, hb, hg, hc, hm, hs, ht⟩
  · omega
  · omega
/-- A store into it. -/
theorem Row.store {g c : Nat} (h : Row w B e sz (.slice (some ⟨g, 0, none⟩) n (c + 1)) n xs) (i : Nat) (u : Value) (hi : i < n * sz) : Row (w.setCell ⟨g, i, none⟩ u) B e sz (.slice (some ⟨g, 0, none⟩) n (c + 1)) n (xs.set i u) := by
  refine ⟨by simpa using h.1, ?_⟩
  rcases h.2 with ⟨rfl, A', hv⟩ | ⟨g', c', cur, hv, hb, hg, hn, hm, hs, ht⟩
  · omega
  · injection hv with h1 _ h3
    injection h1 with h1
    injection h1 with h1
    subst h1
    obtain rfl : c = c' := by omega
    refine .inr ⟨g, c, cur.setIfInBounds i u, rfl, hb, ?_, hn, hm, by simpa using hs, ?_⟩
    · simp [World.setCell, Array.getElem?_modify, hg]
    · rw [Array.toList_setIfInBounds, List.take_set, ht]
end

theorem set_touch (w : World) (b i : Nat) (u : Value) : Touch w (w.setCell ⟨b, i, none⟩ u) (fun k => k = b) :=
  ⟨rfl, rfl, rfl, by simp [World.setCell], fun k _ hk => Below.heap_setCell w ⟨b, i, none⟩ u k hk⟩

/-! append -/
section
variable {P : Program} (w : World)
theorem run_append_row (B : Nat) (t ty e : TypeId) (i : TypeInfo) (z : Value) (size bytes : Nat) (ht : P.underlying t = some (.slice e)) (hi : P.info? e = some i) (hz : i.zero = some z)
    (hsize : i.size = size) (hby : i.bytes = bytes) (hzs : z.cells.size = size) (hsz : 0 < size)
    (v : Value) (n : Nat) (xs : List Value) (hrow : Row w B e size v n xs)
    (B' : Nat) (A : Option Addr) (m c : Nat) (news : List Value) (hr : Reads w B' size A m news) (h1 : ∀ u ∈ news, u.oneCell' = true)
    (h63 : n + m ≤ maxLen) (hbytes : (n + m) * bytes ≤ 140737488355328) (hbase : B ≤ w.heap.size) :
    ∃ v' w', (Builtin.append_ #[t, t] ty #[v, .slice A m c]).run P w = .ok v' w' ∧ Row w' B e size v' (n + m) (xs ++ news) ∧ w.grownBy w' (roomBlock v) ∧
      (∀ k, roomBlock v' = some k → roomBlock v = some k ∨ k = w.heap.size) := by
  have key : ∀ v0, w.ownsRow B e size v0 n xs → (roomBlock v0 = v0.ownBlock) → ∃ v' w', (Builtin.append_ #[t, t] ty #[v0, .slice A m c]).run P w = .ok v' w' ∧ Row w' B e size v' (n + m) (xs ++ news) ∧ w.grownBy w' (roomBlock v0) ∧
      (∀ k, roomBlock v' = some k → roomBlock v0 = some k ∨ k = w.heap.size) := by
    intro v0 ho hb
    obtain ⟨v', w', hrun, h2, h3, h4⟩ := run_append_any (P := P) w B t ty e i z size bytes ht hi hz hsize hby hzs hsz v0 n xs ho B' A m c news hr h1 h63 hbytes hbase
    refine ⟨v', w', hrun, Row.of_own h2, by rw [hb]; exact h3, fun k hk => ?_⟩
    have hk' : v'.ownBlock = some k := by
      cases v' with
      | slice A' n' c' => cases A' with
        | none => simp [roomBlock] at hk
        | some a => cases c' with
          | zero => simp [roomBlock] at hk
          | succ c' => simpa [roomBlock, Value.ownBlock] using hk
      | _ => simp [roomBlock] at hk
    rcases h4 with h4 | h4
    · left; rw [hb, ← h4]; exact hk'
    · right; rw [h4] at hk'; injection hk' with hk'; exact hk'.symm
  rcases hrow.2 with ⟨rfl, A0, rfl⟩ | ⟨g, c', cur, rfl, hb, hg, hn, hm, hs, htk⟩
  · obtain rfl : xs = [] := List.eq_nil_of_length_eq_zero (by simpa using hrow.1)
    cases A0 with
    | none => exact key _ (World.ownsRow_nil w B e size) rfl
    | some a0 =>
      have hrb : roomBlock (.slice (some a0) 0 0) = none := rfl
      rcases Nat.eq_zero_or_pos m with rfl | hm
      · obtain rfl : news = [] := List.eq_nil_of_length_eq_zero (by simpa using hr.1)
        refine ⟨.slice (some a0) 0 0, w, ?_, Row.nil w B e size (some a0), World.grownBy.refl w _, fun k hk => .inl hk⟩
        cases A with
        | none => simp [Builtin.append_, run_underlying ht, sizeOf, typeInfo, hi, Builtin.lenOf, Builtin.firstCells, storeCells]
        | some ad =>
          have hf := run_firstCells_some (P := P) w i.size 0 ad 0 c [] (by simp) (by simp)
          simp [Builtin.append_, run_underlying ht, sizeOf, typeInfo, hi, Builtin.lenOf, hf, storeCells]
      · obtain ⟨ad, rfl, _, hcells⟩ := hr.2 hm
        subst hsize hby
        have hrun := run_append_grow (P := P) w t ty e i z ht hi hz a0 0 0 [] (by simp) (by simp) ad m c news hr.1 hcells (by omega) (by simp only [maxLen] at h63; omega) (growslice_fits (by omega) hbytes)
        refine ⟨_, _, hrun, Row.of_own ⟨by simp [hr.1], .inr ⟨w.heap.size, _, _, rfl, hbase, heap_alloc_new w.drew _, grownCap_ge _ _ _ _, grownCap_le_maxLen _ _ _ _ h63, ?_, ?_⟩⟩, ?_, fun k hk => ?_⟩
        · have := grownCap_ge w (0 + m) 0 e
          simp only [List.size_toArray, Array.size_append, size_zeroCells, hzs, hr.1, List.length_nil]
          rw [Nat.zero_add, ← Nat.add_mul]
          congr 1
          omega
        · have hl : m * i.size = news.length := hr.1.symm
          simp [hl]
        · exact ⟨rfl, rfl, rfl, by simp, fun k hk _ => heap_alloc_old w.drew _ k hk⟩
        · right
          generalize grownCap w (0 + m) 0 e = q at hk
          cases q with
          | zero => simp [roomBlock] at hk
          | succ q => simpa [roomBlock] using hk.symm
  · exact key _ ⟨hrow.1, .inr ⟨g, c' + 1, cur, rfl, hb, hg, hn, hm, hs, htk⟩⟩ rfl

theorem wp_append_row {o : Oper} {a : Act} {K : Act → World → Prop} {Q : Exit → Act → World → Prop} (s x : Operand) (t : TypeId)
    (ho : o.op = .call { callee := .builtin .append, args := #[s, x], argTypes := #[t, t] })
    (B : Nat) (e : TypeId) (i : TypeInfo) (z : Value) (size bytes : Nat) (ht : P.underlying t = some (.slice e)) (hi : P.info? e = some i) (hz : i.zero = some z)
    (hsize : i.size = size) (hby : i.bytes = bytes) (hzs : z.cells.size = size) (hsz : 0 < size)
    (v : Value) (n : Nat) (xs : List Value) (hs : a.eval s = v) (hrow : Row w B e size v n xs)
    (B' : Nat) (A : Option Addr) (m c : Nat) (news : List Value) (hx : a.eval x = .slice A m c) (hr : Reads w B' size A m news) (h1 : ∀ u ∈ news, u.oneCell' = true)
    (h63 : n + m ≤ maxLen) (hbytes : (n + m) * bytes ≤ 140737488355328) (hbase : B ≤ w.heap.size)
    (h : ∀ v' w', Row w' B e size v' (n + m) (xs ++ news) → w.grownBy w' (roomBlock v) → (∀ k, roomBlock v' = some k → roomBlock v = some k ∨ k = w.heap.size) → K (a.put o.dst v') w') : o.wp P a w K Q := by
  obtain ⟨v', w', hrun, h2, h3, h4⟩ := run_append_row (P := P) w B t o.type e i z size bytes ht hi hz hsize hby hzs hsz v n xs hrow B' A m c news hr h1 h63 hbytes hbase
  unfold Oper.wp execOp
  simp only [ho, resolve, invoke, builtin, Sem.run_bind, Sem.run_pure, Result.andThen_ok, List.map_toArray, List.map_cons, List.map_nil, hs, hx, hrun]
  exact h v' w' h2 h3 h4
theorem wpList_append_row {ops : Array Oper} {rest : List Oper} {o : Oper} {a : Act} {Q : Exit → Act → World → Prop} (hgd : o.guard = none) (s x : Operand) (t : TypeId)
    (ho : o.op = .call { callee := .builtin .append, args := #[s, x], argTypes := #[t, t] })
    (B : Nat) (e : TypeId) (i : TypeInfo) (z : Value) (size bytes : Nat) (ht : P.underlying t = some (.slice e)) (hi : P.info? e = some i) (hz : i.zero = some z)
    (hsize : i.size = size) (hby : i.bytes = bytes) (hzs : z.cells.size = size) (hsz : 0 < size)
    (v : Value) (n : Nat) (xs : List Value) (hs : a.eval s = v) (hrow : Row w B e size v n xs)
    (B' : Nat) (A : Option Addr) (m c : Nat) (news : List Value) (hx : a.eval x = .slice A m c) (hr : Reads w B' size A m news) (h1 : ∀ u ∈ news, u.oneCell' = true)
    (h63 : n + m ≤ maxLen) (hbytes : (n + m) * bytes ≤ 140737488355328) (hbase : B ≤ w.heap.size)
    (h : ∀ v' w', Row w' B e size v' (n + m) (xs ++ news) → w.grownBy w' (roomBlock v) → (∀ k, roomBlock v' = some k → roomBlock v = some k ∨ k = w.heap.size) → wpList P ops Q rest (a.put o.dst v') w') : wpList P ops Q (o :: rest) a w :=
  wpList_plain hgd fun _ hK => wp_append_row w s x t ho B e i z size bytes ht hi hz hsize hby hzs hsz v n xs hs hrow B' A m c news hx hr h1 h63 hbytes hbase fun v' w' h2 h3 h4 => hK _ _ (h v' w' h2 h3 h4)
end

/-! What is owned -/
inductive Res where
  | st (b : Nat) (T : TypeId) (vs : Array Value)
  | row (e : TypeId) (sz : Nat) (v : Value) (n : Nat) (xs : List Value)
  | map (b : Nat) (es : Array MapEntry) (clock : Nat)

def Res.blk : Res → Option Nat
  | .st b _ _ => some b
  | .row _ _ v _ _ => roomBlock v
  | .map b _ _ => some b
def Res.Is (w : World) (B : Nat) : Res → Prop
  | .st b T vs => B ≤ b ∧ Blk w b T vs
  | .row e sz v n xs => Row w B e sz v n xs
  | .map b es c => B ≤ b ∧ w.heap[b]? = some (.map es c)
def blks (R : List Res) : List Nat := R.filterMap Res.blk

structure Held (w : World) (B : Nat) (R : List Res) : Prop where
  are : ∀ r ∈ R, r.Is w B
  apart : (blks R).Nodup

/-- From what is owned to what is owned: nothing else has turned. -/
structure Turns (w : World) (B : Nat) (R R' : List Res) (w' : World) : Prop where
  held : Held w' B R'
  touch : Touch w w' (· ∈ blks R)
  new : ∀ k ∈ blks R', k ∈ blks R ∨ w.heap.size ≤ k

section
variable {w w1 w' : World} {B : Nat} {R R1 R' F : List Res} {r : Res}
theorem Res.Is.lt (h : r.Is w B) {k : Nat} (hk : r.blk = some k) : B ≤ k ∧ k < w.heap.size := by
  cases r with
  | st b T vs => cases hk; exact ⟨h.1, h.2.lt⟩
  | row e sz v n xs => exact Row.lt h k hk
  | map b es c => cases hk; exact ⟨h.1, (Array.getElem?_eq_some_iff.1 h.2).1⟩
theorem Res.Is.touch {S : Nat → Prop} (h : r.Is w B) (T : Touch w w' S) (hS : ∀ k, r.blk = some k → ¬ S k) : r.Is w' B := by
  cases r with
  | st b T' vs => exact ⟨h.1, (T.block b h.2.lt (hS b rfl)).trans h.2⟩
  | row e sz v n xs => exact Row.touch h T hS
  | map b es c => exact ⟨h.1, (T.block b (Array.getElem?_eq_some_iff.1 h.2).1 (hS b rfl)).trans h.2⟩
theorem mem_blks {k : Nat} : k ∈ blks R ↔ ∃ r ∈ R, r.blk = some k := by simp [blks]
theorem blks_append : blks (R ++ F) = blks R ++ blks F := List.filterMap_append
theorem Held.low (h : Held w B R) {k : Nat} (hk : k ∈ blks R) : B ≤ k ∧ k < w.heap.size := by
  obtain ⟨r, hr, e⟩ := mem_blks.1 hk
  exact (h.are r hr).lt e
theorem Held.nil (w : World) (B : Nat) : Held w B [] := ⟨by simp, by simp [blks]⟩
theorem Held.left (h : Held w B (R ++ F)) : Held w B R := ⟨fun r hr => h.are r (List.mem_append_left _ hr), by have := h.apart; rw [blks_append] at this; exact (List.nodup_append.1 this).1⟩
theorem Held.right (h : Held w B (R ++ F)) : Held w B F := ⟨fun r hr => h.are r (List.mem_append_right _ hr), by have := h.apart; rw [blks_append] at this; exact (List.nodup_append.1 this).2.1⟩
theorem Held.far (h : Held w B (R ++ F)) {k : Nat} (h1 : k ∈ blks R) (h2 : k ∈ blks F) : False := by
  have := h.apart
  rw [blks_append] at this
  exact (List.nodup_append.1 this).2.2 k h1 k h2 rfl
theorem Held.join (h : Held w B R) (k : Held w B F) (hf : ∀ i ∈ blks R, i ∉ blks F) : Held w B (R ++ F) :=
  ⟨fun r hr => (List.mem_append.1 hr).elim (h.are r) (k.are r), by rw [blks_append]; exact List.nodup_append.2 ⟨h.apart, k.apart, fun a ha b hb e => hf a ha (e ▸ hb)⟩⟩
theorem Held.perm (h : Held w B R) (p : R.Perm R') : Held w B R' := ⟨fun r hr => h.are r (p.mem_iff.2 hr), (p.filterMap Res.blk).nodup_iff.1 h.apart⟩
theorem Held.sub (h : Held w B R) (p : R'.Sublist R) : Held w B R' := ⟨fun r hr => h.are r (p.mem hr), h.apart.sublist (p.filterMap Res.blk)⟩
theorem Held.touch {S : Nat → Prop} (h : Held w B R) (T : Touch w w' S) (hS : ∀ k ∈ blks R, ¬ S k) : Held w' B R :=
  ⟨fun r hr => (h.are r hr).touch T fun k hk => hS k (mem_blks.2 ⟨r, hr, hk⟩), h.apart⟩
theorem Held.mono {B' : Nat} (h : Held w B R) (hB : B' ≤ B) : Held w B' R :=
  ⟨fun r hr => by
    have := h.are r hr
    cases r with
    | st b T vs => exact ⟨Nat.le_trans hB this.1, this.2⟩
    | row e sz v n xs => exact Row.mono this hB
    | map b es c => exact ⟨Nat.le_trans hB this.1, this.2⟩, h.apart⟩
theorem Held.drewN (h : Held w B R) (n : Nat) : Held (w.drewN n) B R :=
  ⟨fun r hr => by
    have := h.are r hr
    cases r <;> exact this, h.apart⟩

theorem Turns.refl (h : Held w B R) : Turns w B R R w := ⟨h, Touch.refl _ _, fun _ hk => .inl hk⟩
theorem Turns.trans (a : Turns w B R R1 w1) (b : Turns w1 B R1 R' w') : Turns w B R R' w' :=
  ⟨b.held, a.touch.trans b.touch a.new, fun k hk => by
    rcases b.new k hk with h | h
    · exact a.new k h
    · exact .inr (Nat.le_trans a.touch.size h)⟩
theorem Turns.drewN (a : Turns w B R R' w') (n : Nat) : Turns w B R R' (w'.drewN n) := ⟨a.held.drewN n, a.touch.drewN n, a.new⟩
theorem Turns.drewN' {n : Nat} (a : Turns (w.drewN n) B R R' w') : Turns w B R R' w' := ⟨a.held, a.touch.drewN' n, a.new⟩
theorem Held.drew (h : Held w B R) : Held w.drew B R := h.drewN 1
theorem Turns.drew (a : Turns w B R R' w') : Turns w B R R' w'.drew := a.drewN 1
theorem Turns.perm (a : Turns w B R R' w') (p : R'.Perm R1) : Turns w B R R1 w' := ⟨a.held.perm p, a.touch, fun k hk => a.new k ((p.filterMap Res.blk).mem_iff.2 hk)⟩
theorem Turns.perm' (a : Turns w B R R' w') (p : R.Perm R1) : Turns w B R1 R' w' :=
  ⟨a.held, a.touch.mono fun k hk => .inl ((p.filterMap Res.blk).mem_iff.1 hk), fun k hk => (a.new k hk).imp (p.filterMap Res.blk).mem_iff.1 id⟩
theorem Turns.sub (a : Turns w B R R' w') (p : R1.Sublist R') : Turns w B R R1 w' := ⟨a.held.sub p, a.touch, fun k hk => a.new k ((p.filterMap Res.blk).mem hk)⟩
/-- What the call doesn't know of stays. -/
theorem Turns.frame (a : Turns w B R R' w') (h : Held w B (R ++ F)) : Turns w B (R ++ F) (R' ++ F) w' := by
  refine ⟨a.held.join (h.right.touch a.touch fun k hk hr => h.far hr hk) fun i hi hf => ?_, a.touch.mono fun k hk => .inl (by rw [blks_append]; exact List.mem_append_left _ hk), fun k hk => ?_⟩
  · rcases a.new i hi with h1 | h1
    · exact h.far h1 hf
    · have := (h.right.low hf).2; omega
  · rw [blks_append] at hk ⊢
    rcases List.mem_append.1 hk with h1 | h1
    · exact (a.new k h1).imp (List.mem_append_left _) id
    · exact .inl (List.mem_append_right _ h1)
theorem Turns.below (a : Turns w B R R' w') (hB : B ≤ w.heap.size) (h : Held w B R) : Below B w w' := a.touch.below (fun k hk => (h.low hk).1) hB
theorem Turns.size (a : Turns w B R R' w') : w.heap.size ≤ w'.heap.size := a.touch.size
theorem Turns.of_below {B' : Nat} (h : Held w B R) (b : Below B' w w') (hb : w.heap.size ≤ B') : Turns w B R R w' := by
  have T : Touch w w' (fun _ => False) := ⟨b.os, b.tape, b.output, b.size, fun k hk _ => b.block k (by omega)⟩
  exact ⟨h.touch T (fun _ _ => id), T.mono fun _ h => h.elim, fun k hk => .inl hk⟩
/-- Behind what makes memory of its own. -/
theorem Turns.made {R0 : List Res} (h : Held w B R) (a : Turns w B [] R0 w') : Turns w B R (R0 ++ R) w' := by
  have := a.frame (F := R) (by simpa using h)
  simpa using this

theorem Held.blk {b : Nat} {T : TypeId} {vs : Array Value} (h : Held w B R) (hm : Res.st b T vs ∈ R) : Blk w b T vs := (h.are _ hm).2
theorem Held.row {e : TypeId} {sz n : Nat} {v : Value} {xs : List Value} (h : Held w B R) (hm : Res.row e sz v n xs ∈ R) : Row w B e sz v n xs := h.are _ hm

/-- A store into a struct. -/
theorem Turns.set {b : Nat} {T : TypeId} {vs : Array Value} (h : Held w B (.st b T vs :: R)) (i : Nat) (u : Value) : Turns w B (.st b T vs :: R) (.st b T (vs.setIfInBounds i u) :: R) (w.setCell ⟨b, i, none⟩ u) := by
  have hb := h.are _ (List.mem_cons_self ..)
  have N : Turns w B [.st b T vs] [.st b T (vs.setIfInBounds i u)] (w.setCell ⟨b, i, none⟩ u) :=
    ⟨⟨by intro r hr; simp at hr; subst hr; exact ⟨hb.1, hb.2.set_ i u⟩, by simp [blks, Res.blk]⟩, (set_touch w b i u).mono (by rintro k rfl; left; simp [blks, Res.blk]), by intro k hk; left; simpa [blks, Res.blk] using hk⟩
  exact N.frame (F := R) h
/-- A store into a slice. -/
theorem Turns.store {e : TypeId} {sz g c n i : Nat} {xs : List Value} {u : Value} (h : Held w B (.row e sz (.slice (some ⟨g, 0, none⟩) n (c + 1)) n xs :: R)) (hi : i < n * sz) :
    Turns w B (.row e sz (.slice (some ⟨g, 0, none⟩) n (c + 1)) n xs :: R) (.row e sz (.slice (some ⟨g, 0, none⟩) n (c + 1)) n (xs.set i u) :: R) (w.setCell ⟨g, i, none⟩ u) := by
  have hb : Row w B e sz _ n xs := h.are _ (List.mem_cons_self ..)
  have N : Turns w B [.row e sz (.slice (some ⟨g, 0, none⟩) n (c + 1)) n xs] [.row e sz (.slice (some ⟨g, 0, none⟩) n (c + 1)) n (xs.set i u)] (w.setCell ⟨g, i, none⟩ u) :=
    ⟨⟨by intro r hr; simp at hr; subst hr; exact hb.store i u hi, by simp [blks, Res.blk, roomBlock]⟩, (set_touch w g i u).mono (by rintro k rfl; left; simp [blks, Res.blk, roomBlock]), by intro k hk; left; simpa [blks, Res.blk, roomBlock] using hk⟩
  exact N.frame (F := R) h
/-- A new block. -/
theorem Turns.new_st (h : Held w B R) (hB : B ≤ w.heap.size) (T : TypeId) (vs : Array Value) : Turns w B R (.st w.heap.size T vs :: R) (w.alloc (.cells vs T)) := by
  have N : Turns w B [] [.st w.heap.size T vs] (w.alloc (.cells vs T)) :=
    ⟨⟨by intro r hr; simp at hr; subst hr; exact ⟨hB, Blk.new w T vs⟩, by simp [blks, Res.blk]⟩, alloc_touch w _ _, by intro k hk; right; simp [blks, Res.blk] at hk; omega⟩
  exact Turns.made h N
/-- A new block that nobody keeps. -/
theorem Turns.lone (h : Held w B R) (o : Obj) : Turns w B R R (w.alloc o) :=
  Turns.of_below h ((Below.refl w.heap.size w).alloc (Nat.le_refl _) o) (Nat.le_refl _)
/-- append to a slice. -/
theorem Turns.grow {e : TypeId} {sz n n' : Nat} {v v' : Value} {xs xs' : List Value} (h : Held w B (.row e sz v n xs :: R)) (hr : Row w' B e sz v' n' xs') (hg : w.grownBy w' (roomBlock v)) (hv : ∀ k, roomBlock v' = some k → roomBlock v = some k ∨ k = w.heap.size) :
    Turns w B (.row e sz v n xs :: R) (.row e sz v' n' xs' :: R) w' := by
  have N : Turns w B [.row e sz v n xs] [.row e sz v' n' xs'] w' := by
    refine ⟨⟨by intro r hr'; simp at hr'; subst hr'; exact hr, ?_⟩, Touch.of_grown hg fun k hk => .inl (mem_blks.2 ⟨_, List.mem_cons_self .., hk⟩), fun k hk => ?_⟩
    · cases hb : roomBlock v' <;> simp [blks, Res.blk, hb]
    · obtain ⟨r, hr1, hr2⟩ := mem_blks.1 hk
      simp at hr1
      subst hr1
      rcases hv k hr2 with h1 | h1
      · exact .inl (mem_blks.2 ⟨_, List.mem_cons_self .., h1⟩)
      · exact .inr (by omega)
  exact N.frame (F := R) h
/-- A slice is another one of the same block, or of none. -/
theorem Turns.turn {e : TypeId} {sz n n' : Nat} {v v' : Value} {xs xs' : List Value} (h : Held w B (.row e sz v n xs :: R)) (hr : Row w B e sz v' n' xs') (hv : ∀ k, roomBlock v' = some k → roomBlock v = some k) :
    Turns w B (.row e sz v n xs :: R) (.row e sz v' n' xs' :: R) w := by
  have N : Turns w B [.row e sz v n xs] [.row e sz v' n' xs'] w := by
    refine ⟨⟨by intro r hr'; simp at hr'; subst hr'; exact hr, ?_⟩, Touch.refl _ _, fun k hk => ?_⟩
    · cases hb : roomBlock v' <;> simp [blks, Res.blk, hb]
    · obtain ⟨r, hr1, hr2⟩ := mem_blks.1 hk
      simp at hr1
      subst hr1
      exact .inl (mem_blks.2 ⟨_, List.mem_cons_self .., hv k hr2⟩)
  exact N.frame (F := R) h
theorem Held.mid {l1 l2 : List Res} (h : Held w B (l1 ++ r :: l2)) : Held w B (r :: (l1 ++ l2)) := h.perm List.perm_middle
theorem Turns.mid {l1 l2 : List Res} {r' : Res} (N : Turns w B (r :: (l1 ++ l2)) (r' :: (l1 ++ l2)) w') : Turns w B (l1 ++ r :: l2) (l1 ++ r' :: l2) w' :=
  (N.perm' List.perm_middle.symm).perm List.perm_middle.symm
theorem Turns.set_at (l1 l2 : List Res) {b : Nat} {T : TypeId} {vs : Array Value} (h : Held w B (l1 ++ .st b T vs :: l2)) (i : Nat) (u : Value) : Turns w B (l1 ++ .st b T vs :: l2) (l1 ++ .st b T (vs.setIfInBounds i u) :: l2) (w.setCell ⟨b, i, none⟩ u) :=
  (Turns.set h.mid i u).mid
theorem Turns.store_at (l1 l2 : List Res) {e : TypeId} {sz g c n i : Nat} {xs : List Value} {u : Value} (h : Held w B (l1 ++ .row e sz (.slice (some ⟨g, 0, none⟩) n (c + 1)) n xs :: l2)) (hi : i < n * sz) :
    Turns w B (l1 ++ .row e sz (.slice (some ⟨g, 0, none⟩) n (c + 1)) n xs :: l2) (l1 ++ .row e sz (.slice (some ⟨g, 0, none⟩) n (c + 1)) n (xs.set i u) :: l2) (w.setCell ⟨g, i, none⟩ u) := (Turns.store h.mid hi).mid
theorem Turns.grow_at (l1 l2 : List Res) {e : TypeId} {sz n n' : Nat} {v v' : Value} {xs xs' : List Value} (h : Held w B (l1 ++ .row e sz v n xs :: l2)) (hr : Row w' B e sz v' n' xs') (hg : w.grownBy w' (roomBlock v)) (hv : ∀ k, roomBlock v' = some k → roomBlock v = some k ∨ k = w.heap.size) :
    Turns w B (l1 ++ .row e sz v n xs :: l2) (l1 ++ .row e sz v' n' xs' :: l2) w' := (Turns.grow h.mid hr hg hv).mid
theorem Turns.turn_at (l1 l2 : List Res) {e : TypeId} {sz n n' : Nat} {v v' : Value} {xs xs' : List Value} (h : Held w B (l1 ++ .row e sz v n xs :: l2)) (hr : Row w B e sz v' n' xs') (hv : ∀ k, roomBlock v' = some k → roomBlock v = some k) :
    Turns w B (l1 ++ .row e sz v n xs :: l2) (l1 ++ .row e sz v' n' xs' :: l2) w := (Turns.turn h.mid hr hv).mid
/-- Two that are owned lie in two blocks. -/
theorem Held.ne {r1 r2 : Res} {k1 k2 : Nat} (h : Held w B (r1 :: R)) (hm : r2 ∈ R) (h1 : r1.blk = some k1) (h2 : r2.blk = some k2) : k1 ≠ k2 := by
  rintro rfl
  exact (Held.far (R := [r1]) (F := R) h (mem_blks.2 ⟨r1, List.mem_cons_self .., h1⟩) (mem_blks.2 ⟨r2, hm, h2⟩)).elim
end

/-! Lists of numbers -/
def ints (l : List Int) : List Value := l.map (.int .i64)
theorem ints_length (l : List Int) : (ints l).length = l.length := by simp [ints]
theorem ints_append (a b : List Int) : ints (a ++ b) = ints a ++ ints b := by simp [ints]
theorem ints_take (a : List Int) (k : Nat) : (ints a).take k = ints (a.take k) := by simp [ints, List.map_take]
theorem ints_one (l : List Int) : ∀ u ∈ ints l, u.oneCell' = true := by
  intro u hu
  simp [ints] at hu
  obtain ⟨x, _, rfl⟩ := hu
  rfl
theorem ints_get (l : List Int) (i : Nat) (h : i < l.length) : (ints l)[i]? = some (.int .i64 (l.getD i 0)) := by
  simp [ints, List.getElem?_map, List.getElem?_eq_getElem h, List.getD, h]
end Go.Proofs.YtoaidcjjjoafjaaGreatDoor.Rs
