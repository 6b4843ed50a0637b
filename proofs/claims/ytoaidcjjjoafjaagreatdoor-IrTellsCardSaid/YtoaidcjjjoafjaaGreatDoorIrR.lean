/-
  Chapter 14 (ir): traces that are handed in, as they are read; which are light.
-/
import Derived.Test.YtoaidcjjjoafjaaGreatDoorIrE
import Derived.ProofKit
import Derived.OpenShut
import Derived.ChangeSame
import Derived.Deep.Slices
import Derived.Deep.Fields
set_option linter.unusedVariables false
set_option linter.unusedSimpArgs false
set_option linter.unnecessarySimpa false
set_option linter.deprecated false
namespace Go.Proofs.YtoaidcjjjoafjaaGreatDoor.Ir
open Go.RowKit Go.ChangeShapes Go.WideShapes Go.ChangeAt Go.Deep

instance : Inhabited Ins := ⟨⟨0, 0, 0, 0, 0⟩⟩
instance : Inhabited Ou := ⟨⟨0, 0, 0, fun _ => 0, 0, fun _ => 0⟩⟩
def OuBig (W : World) (B : Nat) (v0 v1 v2 v3 : Value) (o : Ou) : Prop :=
  v0 = .int .i64 o.ip ∧ v1 = .int .i64 o.steps ∧ (∃ A c, v2 = .slice A o.ns c ∧ IntsAt W B A o.ns o.st) ∧ (∃ A c, v3 = .slice A o.nb c ∧ IntsAt W B A o.nb o.bk) ∧ o.ns ≤ maxLen ∧ o.nb ≤ maxLen
def OutsBig (W : World) (B : Nat) (A : Option Addr) (n : Nat) (f : Nat → Ou) : Prop :=
  n = 0 ∨ ∃ b off, A = some ⟨b, off, none⟩ ∧ b < B ∧ ∀ i, i < n → ∃ v0 v1 v2 v3, OuBig W B v0 v1 v2 v3 (f i) ∧ W.cell? ⟨b, off + i * 4, none⟩ = some v0 ∧ W.cell? ⟨b, off + i * 4 + 1, none⟩ = some v1 ∧
    W.cell? ⟨b, off + i * 4 + 2, none⟩ = some v2 ∧ W.cell? ⟨b, off + i * 4 + 3, none⟩ = some v3
structure TrBig (W : World) (B : Nat) (T : Tr) (Ai Ao Ac : Option Addr) : Prop where
  ins : InsAt W B Ai T.ni T.ins
  outs : OutsBig W B Ao T.no T.outs
  cells : IntsAt W B Ac T.nc T.cells
  fewI : T.ni ≤ maxLen
  fewO : T.no ≤ maxLen
  fewC : T.nc ≤ maxLen
theorem TrBig.below {W W' : World} {B : Nat} {T : Tr} {Ai Ao Ac : Option Addr} (h : TrBig W B T Ai Ao Ac) (hb : Below B W W') : TrBig W' B T Ai Ao Ac := by
  refine ⟨h.ins.below hb, ?_, h.cells.below hb, h.fewI, h.fewO, h.fewC⟩
  rcases h.outs with h0 | ⟨b, off, h1, h2, h3⟩
  · exact .inl h0
  · refine .inr ⟨b, off, h1, h2, fun i hi => ?_⟩
    obtain ⟨v0, v1, v2, v3, ⟨a0, a1, ⟨A, c, a2, a3⟩, ⟨A', c', a4, a5⟩, a6, a7⟩, x0, x1, x2, x3⟩ := h3 i hi
    exact ⟨v0, v1, v2, v3, ⟨a0, a1, ⟨A, c, a2, a3.below hb⟩, ⟨A', c', a4, a5.below hb⟩, a6, a7⟩, (hb.cell (p := ⟨b, _, none⟩) h2).trans x0, (hb.cell (p := ⟨b, _, none⟩) h2).trans x1, (hb.cell (p := ⟨b, _, none⟩) h2).trans x2, (hb.cell (p := ⟨b, _, none⟩) h2).trans x3⟩
/-- What is light is few. -/
def LightT (T : Tr) : Prop := T.ni ≤ 120 ∧ T.no ≤ 60 ∧ T.nc ≤ 100 ∧ ∀ i, i < T.no → (T.outs i).ns ≤ 60 ∧ (T.outs i).nb ≤ 60
theorem TrBig.light {W : World} {B : Nat} {T : Tr} {Ai Ao Ac : Option Addr} (h : TrBig W B T Ai Ao Ac) (k : LightT T) : TrAt W B T Ai Ao Ac := by
  refine ⟨h.ins, ?_, h.cells, by have := k.1; omega, by have := k.2.1; omega, by have := k.2.2.1; omega⟩
  rcases h.outs with h0 | ⟨b, off, h1, h2, h3⟩
  · exact .inl h0
  · refine .inr ⟨b, off, h1, h2, fun i hi => ?_⟩
    obtain ⟨v0, v1, v2, v3, ⟨a0, a1, a2, a3, _, _⟩, r⟩ := h3 i hi
    have := k.2.2.2 i hi
    exact ⟨v0, v1, v2, v3, ⟨a0, a1, a2, a3, by omega, by omega⟩, r⟩

section
variable {H : Type} {enc : TypeId × Value → H} {P : Program} {w : World} {base : Nat} {spare : Nat → Bool} {held : Bool}
theorem open_fields {t e : TypeId} {fs : Array Field} {fuel : Nat} {cs : List Value} {x : DataW H × List MemPlace} (ht : P.underlying t = some (.slice e)) (he : P.underlying e = some (.struct fs))
    (hone : oneCellFields P fs = true) (hC : P.cellsOf e = fs.size) (h : DataW.trod enc P w base spare held fuel t cs = some x) :
    cs = [.slice none 0 0] ∨
    ∃ (a : Addr) (len cap : Nat), cs = [.slice (some a) len cap] ∧ cap ≤ maxLen ∧ len ≤ cap ∧
      ∀ i, i < len → ∃ n, ∀ (j : Nat) (f : Field), fs[j]? = some f → ∃ (v : Value) (y : DataW H × List MemPlace), w.cell? (a.add (i * fs.size + j)) = some v ∧ DataW.trod enc P w base spare held n f.type [v] = some y := by
  rcases open_slice ht h with ⟨h0, _⟩ | ⟨a, len, cap, m, n, D, Pl, hcs, hb, hl, hm, hmm, hx, hi⟩
  · exact .inl h0
  · refine .inr ⟨a, len, cap, hcs, hm, hl, fun i hil => ?_⟩
    obtain ⟨cs', hc, ht'⟩ := hi i (by split at hmm <;> omega)
    rw [hC] at hc
    obtain ⟨ys, n', hn', hy, hlen, hyl, hf⟩ := DataW.trod_struct he ht'
    obtain ⟨_, hcl, hat⟩ := World.cells?_some hc
    refine ⟨n', fun j f hj => ?_⟩
    obtain ⟨ho, hk⟩ := hone_of hone j f hj
    have hjl : j < fs.size := (Array.getElem?_eq_some_iff.1 hj).1
    have hcell := hat j hjl
    have hv : cs'[j]? = some (cs'[j]'(by omega)) := List.getElem?_eq_getElem (by omega)
    have h1 := hf j f hj
    rw [ho, hk] at h1
    have hone' : (cs'.drop j).take 1 = [cs'[j]'(by omega)] := by
      rw [List.drop_eq_getElem_cons (by omega)]
      rfl
    rw [hone'] at h1
    have hys : ys[j]? = some (ys[j]'(by omega)) := List.getElem?_eq_getElem (by omega)
    refine ⟨_, _, ?_, h1.trans hys⟩
    rw [← Go.Deep.add_add, hcell, hv]
end

section
variable {H : Type} {enc : TypeId × Value → H} {W : World} {A : Option Addr} {len cap fuel : Nat} {x : DataW H × List MemPlace} {base : Nat} {spare : Nat → Bool} {held : Bool}
theorem rd_ints (h : DataW.trod enc Tryz.prog W base spare held fuel 24 [.slice A len cap] = some x) : len ≤ maxLen ∧ ∃ f, IntsAt W W.heap.size A len f := by
  rcases open_slice Tryz.underlying24 h with ⟨hcs, _⟩ | ⟨a, l, c, m, n, D, Pl, hcs, hb, hl, hm, hmm, hx, hi⟩
  · simp at hcs
    obtain ⟨rfl, rfl, rfl⟩ := hcs
    exact ⟨Nat.zero_le _, fun _ => 0, .inl rfl⟩
  · simp at hcs
    obtain ⟨rfl, rfl, rfl⟩ := hcs
    refine ⟨by omega, ?_⟩
    have hall : ∀ i, i < len → ∃ y : Int, W.cell? (a.add i) = some (.int .i64 y) := by
      intro i hil
      obtain ⟨cs', hc, ht'⟩ := hi i (by split at hmm <;> omega)
      have h1 : Tryz.prog.cellsOf 3 = 1 := by kernel_rfl
      rw [h1] at hc
      obtain ⟨_, hcl, hat⟩ := World.cells?_some hc
      obtain ⟨v, rfl⟩ : ∃ v, cs' = [v] := by
        match cs', hcl with
        | [v], _ => exact ⟨v, rfl⟩
      obtain ⟨y, e0, _, _⟩ := DataW.trod_int Tryz.underlying3 ht'
      simp at e0
      subst e0
      have := hat 0 (by omega)
      exact ⟨y, by simpa [Addr.add] using this⟩
    obtain ⟨f, hf⟩ := choose_lt hall
    refine ⟨f, ?_⟩
    rcases Nat.eq_zero_or_pos len with h0 | h0
    · exact .inl h0
    · obtain ⟨b, off, spot⟩ := a
      have hc := hf 0 h0
      have hs : spot = none := by simpa [Addr.add] using World.cell?_spot hc
      subst hs
      exact .inr ⟨b, off, rfl, by have := World.block_lt_of_cell? W _ hc; simpa [Addr.add] using this, fun i hi => by have := hf i hi; rw [add_plain] at this; exact this⟩
set_option maxRecDepth 100000 in
theorem rd_ins (h : DataW.trod enc Tryz.prog W base spare held fuel 22 [.slice A len cap] = some x) : len ≤ maxLen ∧ ∃ f, InsAt W W.heap.size A len f := by
  rcases open_fields Tryz.underlying22 Tryz.underlying42 (by kernel_rfl) (by kernel_rfl) h with hcs | ⟨a, l, c, hcs, hm, hl, hi⟩
  · simp at hcs
    obtain ⟨rfl, rfl, rfl⟩ := hcs
    exact ⟨Nat.zero_le _, fun _ => ⟨0, 0, 0, 0, 0⟩, .inl rfl⟩
  · simp at hcs
    obtain ⟨rfl, rfl, rfl⟩ := hcs
    refine ⟨by omega, ?_⟩
    have hall : ∀ i, i < len → ∃ y : Ins, W.cell? (a.add (i * 5)) = some (.int .i64 y.op) ∧ W.cell? (a.add (i * 5 + 1)) = some (.int .i64 y.a) ∧ W.cell? (a.add (i * 5 + 2)) = some (.int .i64 y.b) ∧ W.cell? (a.add (i * 5 + 3)) = some (.int .i64 y.c) ∧ W.cell? (a.add (i * 5 + 4)) = some (.int .i64 y.x) := by
      intro i hil
      obtain ⟨n, hf⟩ := hi i hil
      obtain ⟨v0, y0, c0, t0⟩ := hf 0 _ rfl
      obtain ⟨v1, y1, c1, t1⟩ := hf 1 _ rfl
      obtain ⟨v2, y2, c2, t2⟩ := hf 2 _ rfl
      obtain ⟨v3, y3, c3, t3⟩ := hf 3 _ rfl
      obtain ⟨v4, y4, c4, t4⟩ := hf 4 _ rfl
      obtain ⟨x0, e0, _, _⟩ := DataW.trod_int Tryz.underlying3 t0
      obtain ⟨x1, e1, _, _⟩ := DataW.trod_int Tryz.underlying3 t1
      obtain ⟨x2, e2, _, _⟩ := DataW.trod_int Tryz.underlying3 t2
      obtain ⟨x3, e3, _, _⟩ := DataW.trod_int Tryz.underlying3 t3
      obtain ⟨x4, e4, _, _⟩ := DataW.trod_int Tryz.underlying3 t4
      simp at e0 e1 e2 e3 e4
      subst e0 e1 e2 e3 e4
      exact ⟨⟨x0, x1, x2, x3, x4⟩, c0, c1, c2, c3, c4⟩
    obtain ⟨f, hf⟩ := choose_lt hall
    refine ⟨f, ?_⟩
    rcases Nat.eq_zero_or_pos len with h0 | h0
    · exact .inl h0
    · obtain ⟨b, off, spot⟩ := a
      have hc := (hf 0 h0).1
      have hs : spot = none := by simpa [Addr.add] using World.cell?_spot hc
      subst hs
      refine .inr ⟨b, off, rfl, by have := World.block_lt_of_cell? W _ hc; simpa [Addr.add] using this, fun i hi => ?_⟩
      have := hf i hi
      simp only [add_plain] at this
      simpa only [Nat.add_assoc] using this
set_option maxRecDepth 100000 in
theorem rd_outs (h : DataW.trod enc Tryz.prog W base spare held fuel 23 [.slice A len cap] = some x) : len ≤ maxLen ∧ ∃ f, OutsBig W W.heap.size A len f := by
  rcases open_fields Tryz.underlying23 Tryz.underlying50 (by kernel_rfl) (by kernel_rfl) h with hcs | ⟨a, l, c, hcs, hm, hl, hi⟩
  · simp at hcs
    obtain ⟨rfl, rfl, rfl⟩ := hcs
    exact ⟨Nat.zero_le _, fun _ => ⟨0, 0, 0, fun _ => 0, 0, fun _ => 0⟩, .inl rfl⟩
  · simp at hcs
    obtain ⟨rfl, rfl, rfl⟩ := hcs
    refine ⟨by omega, ?_⟩
    have hall : ∀ i, i < len → ∃ y : Ou, ∃ v0 v1 v2 v3, OuBig W W.heap.size v0 v1 v2 v3 y ∧ W.cell? (a.add (i * 4)) = some v0 ∧ W.cell? (a.add (i * 4 + 1)) = some v1 ∧ W.cell? (a.add (i * 4 + 2)) = some v2 ∧ W.cell? (a.add (i * 4 + 3)) = some v3 := by
      intro i hil
      obtain ⟨n, hf⟩ := hi i hil
      obtain ⟨v0, y0, c0, t0⟩ := hf 0 _ rfl
      obtain ⟨v1, y1, c1, t1⟩ := hf 1 _ rfl
      obtain ⟨v2, y2, c2, t2⟩ := hf 2 _ rfl
      obtain ⟨v3, y3, c3, t3⟩ := hf 3 _ rfl
      obtain ⟨x0, e0, _, _⟩ := DataW.trod_int Tryz.underlying3 t0
      obtain ⟨x1, e1, _, _⟩ := DataW.trod_int Tryz.underlying3 t1
      simp at e0 e1
      subst e0 e1
      have sl : ∀ {v : Value} {y : DataW H × List MemPlace}, DataW.trod enc Tryz.prog W base spare held n 24 [v] = some y → ∃ B l c, v = .slice B l c := by
        intro v y ht
        rcases open_slice Tryz.underlying24 ht with ⟨hcs, _⟩ | ⟨a, l, c, m, n, D, Pl, hcs, _⟩
        · simp at hcs; exact ⟨_, _, _, hcs⟩
        · simp at hcs; exact ⟨_, _, _, hcs⟩
      obtain ⟨A2, l2, k2, rfl⟩ := sl t2
      obtain ⟨A3, l3, k3, rfl⟩ := sl t3
      obtain ⟨m2, f2, i2⟩ := rd_ints t2
      obtain ⟨m3, f3, i3⟩ := rd_ints t3
      exact ⟨⟨x0, x1, l2, f2, l3, f3⟩, _, _, _, _, ⟨rfl, rfl, ⟨A2, k2, rfl, i2⟩, ⟨A3, k3, rfl, i3⟩, m2, m3⟩, c0, c1, c2, c3⟩
    obtain ⟨f, hf⟩ := choose_lt hall
    refine ⟨f, ?_⟩
    rcases Nat.eq_zero_or_pos len with h0 | h0
    · exact .inl h0
    · obtain ⟨b, off, spot⟩ := a
      obtain ⟨_, _, _, _, _, hc, _⟩ := hf 0 h0
      have hs : spot = none := by simpa [Addr.add] using World.cell?_spot hc
      subst hs
      refine .inr ⟨b, off, rfl, by have := World.block_lt_of_cell? W _ hc; simpa [Addr.add] using this, fun i hi => ?_⟩
      obtain ⟨v0, v1, v2, v3, r, x0, x1, x2, x3⟩ := hf i hi
      simp only [add_plain] at x0 x1 x2 x3
      exact ⟨v0, v1, v2, v3, r, x0, by simpa only [Nat.add_assoc] using x1, by simpa only [Nat.add_assoc] using x2, by simpa only [Nat.add_assoc] using x3⟩
end
set_option maxRecDepth 100000 in
theorem tr_of {H : Type} {enc : TypeId × Value → H} {W : World} {b0 : Nat} {v : Value} {d : DataW H} {p : List MemPlace} (hv : Value.okWide Tryz.prog W .any b0 26 v)
    (h : DataW.Trod enc Tryz.prog W 0 (fun _ => true) true 26 v d p) : ∃ T Ai ci Ao co Ac cc, v = .agg (trCells T Ai ci Ao co Ac cc) ∧ TrBig W W.heap.size T Ai Ao Ac := by
  obtain ⟨cs, rfl, hcs⟩ := okWide_struct Tryz.underlying26 hv
  have h9 : Tryz.prog.cellsOf 26 = 9 := by kernel_rfl
  rw [h9] at hcs
  obtain ⟨l⟩ := cs
  match l, hcs with
  | [v0, v1, v2, v3, v4, v5, v6, v7, v8], _ =>
    obtain ⟨fuel, hf⟩ := h
    obtain ⟨ys, n', hn', hy, hlen, hyl, hf⟩ := DataW.trod_struct Tryz.underlying26 hf
    have t0 := hf 0 _ rfl
    have t1 := hf 1 _ rfl
    have t2 := hf 2 _ rfl
    have t3 := hf 3 _ rfl
    have t4 := hf 4 _ rfl
    have t5 := hf 5 _ rfl
    have t6 := hf 6 _ rfl
    have t7 := hf 7 _ rfl
    have t8 := hf 8 _ rfl
    have g : ∀ (i : Nat), i < 9 → ∃ y, ys[i]? = some y := fun i hi => ⟨ys[i]'(by rw [hyl]; exact hi), List.getElem?_eq_getElem (by rw [hyl]; exact hi)⟩
    obtain ⟨y0, g0⟩ := g 0 (by omega)
    obtain ⟨y1, g1⟩ := g 1 (by omega)
    obtain ⟨y2, g2⟩ := g 2 (by omega)
    obtain ⟨y3, g3⟩ := g 3 (by omega)
    obtain ⟨y4, g4⟩ := g 4 (by omega)
    obtain ⟨y5, g5⟩ := g 5 (by omega)
    obtain ⟨y6, g6⟩ := g 6 (by omega)
    obtain ⟨y7, g7⟩ := g 7 (by omega)
    obtain ⟨y8, g8⟩ := g 8 (by omega)
    rw [g0] at t0
    rw [g1] at t1
    rw [g2] at t2
    rw [g3] at t3
    rw [g4] at t4
    rw [g5] at t5
    rw [g6] at t6
    rw [g7] at t7
    rw [g8] at t8
    have u0 : DataW.trod enc Tryz.prog W 0 (fun _ => true) true n' 3 [v0] = some y0 := t0
    have u1 : DataW.trod enc Tryz.prog W 0 (fun _ => true) true n' 3 [v1] = some y1 := t1
    have u2 : DataW.trod enc Tryz.prog W 0 (fun _ => true) true n' 3 [v2] = some y2 := t2
    have u3 : DataW.trod enc Tryz.prog W 0 (fun _ => true) true n' 3 [v3] = some y3 := t3
    have u4 : DataW.trod enc Tryz.prog W 0 (fun _ => true) true n' 3 [v4] = some y4 := t4
    have u5 : DataW.trod enc Tryz.prog W 0 (fun _ => true) true n' 22 [v5] = some y5 := t5
    have u6 : DataW.trod enc Tryz.prog W 0 (fun _ => true) true n' 23 [v6] = some y6 := t6
    have u7 : DataW.trod enc Tryz.prog W 0 (fun _ => true) true n' 3 [v7] = some y7 := t7
    have u8 : DataW.trod enc Tryz.prog W 0 (fun _ => true) true n' 24 [v8] = some y8 := t8
    obtain ⟨x0, e0, _, _⟩ := DataW.trod_int Tryz.underlying3 u0
    obtain ⟨x1, e1, _, _⟩ := DataW.trod_int Tryz.underlying3 u1
    obtain ⟨x2, e2, _, _⟩ := DataW.trod_int Tryz.underlying3 u2
    obtain ⟨x3, e3, _, _⟩ := DataW.trod_int Tryz.underlying3 u3
    obtain ⟨x4, e4, _, _⟩ := DataW.trod_int Tryz.underlying3 u4
    obtain ⟨x7, e7, _, _⟩ := DataW.trod_int Tryz.underlying3 u7
    simp at e0 e1 e2 e3 e4 e7
    subst e0 e1 e2 e3 e4 e7
    have sl : ∀ {t e : TypeId} {v : Value} {y : DataW H × List MemPlace}, Tryz.prog.underlying t = some (.slice e) → DataW.trod enc Tryz.prog W 0 (fun _ => true) true n' t [v] = some y → ∃ B l c, v = .slice B l c := by
      intro t e v y ht h
      rcases open_slice ht h with ⟨hcs, _⟩ | ⟨a, l, c, m, n, D, Pl, hcs, _⟩
      · simp at hcs; exact ⟨_, _, _, hcs⟩
      · simp at hcs; exact ⟨_, _, _, hcs⟩
    obtain ⟨A5, l5, k5, rfl⟩ := sl Tryz.underlying22 u5
    obtain ⟨A6, l6, k6, rfl⟩ := sl Tryz.underlying23 u6
    obtain ⟨A8, l8, k8, rfl⟩ := sl Tryz.underlying24 u8
    obtain ⟨m5, f5, i5⟩ := rd_ins u5
    obtain ⟨m6, f6, i6⟩ := rd_outs u6
    obtain ⟨m8, f8, i8⟩ := rd_ints u8
    exact ⟨⟨x0, x1, x2, x3, x4, l5, f5, l6, f6, x7, l8, f8⟩, A5, k5, A6, k6, A8, k8, rfl, i5, i6, i8, m5, m6, m8⟩
end Go.Proofs.YtoaidcjjjoafjaaGreatDoor.Ir
