/-
  A drawn region whose first n operations only read (callees too), and behind whose operation n - 1 all others wait: the first n in the order of the text, then what is left, in whatever order.
-/
import Derived.Test.YtoaidcjjjoafjaaGreatDoorPh
import Derived.BigQuiet
set_option linter.unusedVariables false
set_option linter.unusedSimpArgs false
set_option linter.unnecessarySimpa false
set_option linter.deprecated false
namespace Go.Proofs.YtoaidcjjjoafjaaGreatDoor.Ph
open Go.RowKit Go

section
variable {P : Program} {ops : Array Oper} {md : Region.Mode} {C : World → Prop}

def waits (md : Region.Mode) (ops : Array Oper) (j i : Nat) : Bool :=
  match ops[j]? with
  | some oj => oj.after.any fun e => Region.binds md e && e.on == i
  | none => false
theorem waits_is {j i : Nat} (h : waits md ops j i = true) : ∃ oj, ops[j]? = some oj ∧ ∃ e ∈ oj.after, Region.binds md e = true ∧ e.on = i := by
  unfold waits at h
  split at h
  · rename_i oj hj
    obtain ⟨e, he, hb⟩ := Array.any_eq_true'.1 h
    simp only [Bool.and_eq_true, beq_iff_eq] at hb
    exact ⟨oj, hj, e, he, hb⟩
  · cases h
/-- Each of the first n has one behind it that waits for it, but the last of them, for which all others wait. -/
def gateB (md : Region.Mode) (ops : Array Oper) (n : Nat) : Bool :=
  ((List.range (n - 1)).all fun i => (List.range n).any fun j => decide (i < j) && waits md ops j i) && (List.range ops.size).all fun t => decide (t < n) || waits md ops t (n - 1)

structure Hd (md : Region.Mode) (ops : Array Oper) (n : Nat) (listed : Array Bool) : Prop where
  size : listed.size = ops.size
  closed : ∀ j oj, ops[j]? = some oj → listed.getD j false = true → ∀ e ∈ oj.after, Region.binds md e = true → listed.getD e.on false = true
theorem hd_set {n i : Nat} {listed : Array Bool} (I : Hd md ops n listed) (hi : i ∈ Region.ready md ops listed) : Hd md ops n (listed.setIfInBounds i true) := by
  obtain ⟨_, oi, hoi, hall⟩ := mem_ready.1 hi
  refine ⟨by simp [I.size], fun j oj hj hl e he hb => ?_⟩
  by_cases hij : i = j
  · subst hij
    have : oj = oi := Option.some.inj (hj.symm.trans hoi)
    subst this
    exact getD_set_true (hall e he hb)
  · rw [getD_set_ne false hij] at hl
    exact getD_set_true (I.closed j oj hj hl e he hb)
theorem getD_low {listed : Array Bool} {i : Nat} (h : listed.getD i true = false) : listed.getD i false = false := by
  rcases Nat.lt_or_ge i listed.size with h' | h'
  · simp [h'] at h ⊢; exact h
  · simp [Array.getElem?_eq_none h'] at h
/-- As long as one of the first n has not come up, none of the others comes up. -/
theorem gate_shut {n : Nat} {listed : Array Bool} (hg : gateB md ops n = true) (I : Hd md ops n listed) :
    ∀ (d i : Nat), n - i = d → i < n → listed.getD i false = false → ∀ t, t ∈ Region.ready md ops listed → t < n := by
  simp only [gateB, Bool.and_eq_true] at hg
  intro d
  induction d using Nat.strongRecOn with
  | _ d ih =>
    intro i hd hi hun t hr
    by_cases hin : i = n - 1
    · obtain ⟨_, ot, hot, hall⟩ := mem_ready.1 hr
      have htlt : t < ops.size := (Array.getElem?_eq_some_iff.1 hot).1
      have h1 := List.all_eq_true.1 hg.2 t (List.mem_range.2 htlt)
      simp only [Bool.or_eq_true, decide_eq_true_eq] at h1
      rcases h1 with h1 | h1
      · exact h1
      · obtain ⟨o', ho', e, he, hb, hon⟩ := waits_is h1
        have : o' = ot := Option.some.inj (ho'.symm.trans hot)
        subst this
        have h2 := hall e he hb
        rw [hon, ← hin, hun] at h2
        cases h2
    · have h1 := List.all_eq_true.1 hg.1 i (List.mem_range.2 (by omega))
      obtain ⟨j, hj, hj2⟩ := List.any_eq_true.1 h1
      simp only [Bool.and_eq_true, decide_eq_true_eq] at hj2
      obtain ⟨oj, hoj, e, he, hb, hon⟩ := waits_is hj2.2
      have hjn := List.mem_range.1 hj
      cases hl : listed.getD j false with
      | true =>
        have h2 := I.closed j oj hoj hl e he hb
        rw [hon, hun] at h2
        cases h2
      | false => exact ih (n - j) (by omega) j rfl hjn hl t hr

/-- Whatever order is picked of the first n. -/
def wpHead (P : Program) (md : Region.Mode) (ops : Array Oper) (C : World → Prop) (n : Nat) (L : Array Bool → Act → Prop) : Nat → Array Bool → Act → Prop
  | 0, listed, a => L listed a
  | f + 1, listed, a => Region.ready md ops listed ≠ [] ∧ ∀ i ∈ Region.ready md ops listed, i < n ∧ qOp P ops C i (wpHead P md ops C n L f (listed.setIfInBounds i true)) a
theorem wpAny_of_wpHead {n g : Nat} {L : Array Bool → Act → Prop} {Q' : Exit → Act → World → Prop} (hL : ∀ listed a w, C w → L listed a → wpAny P md ops Q' g listed a w) :
    ∀ (f : Nat) (listed : Array Bool) (a : Act) (w : World), C w → wpHead P md ops C n L f listed a → wpAny P md ops Q' (f + g) listed a w
  | 0, listed, a, w, hw, h => by rw [Nat.zero_add]; exact hL _ _ _ hw h
  | f + 1, listed, a, w, hw, h => by
    rw [show f + 1 + g = (f + g) + 1 by omega]
    exact ⟨fun h0 => absurd h0 h.1, fun i hi => wpOp_of_qOp hw (fun a' w' hw' h' => wpAny_of_wpHead hL f _ a' w' hw' h') (h.2 i hi).2⟩
theorem head_first {n i : Nat} {oi : Oper} {v : Value} {L : Array Bool → Act → Prop} (hi : ops[i]? = some oi) (hsel : ∀ (j : Nat) (o : Oper) cs b, ops[j]? = some o → o.op ≠ .select cs b)
    (hg : gateB md ops n = true) (hin : i < n) (hdone : ∀ listed a, L listed a → ∀ j ∈ Region.ready md ops listed, n ≤ j) :
    ∀ (f : Nat) (listed : Array Bool) (a : Act), Hd md ops n listed →
      (∀ j oj, ops[j]? = some oj → j ≠ i → listed.getD j true = false → (∀ e ∈ oj.after, Region.binds md e = true → e.on ≠ i) → oi.apart ops oj = true) →
      i ∈ Region.ready md ops listed → YieldsIn P ops C oi v a →
      wpHead P md ops C n L f (listed.setIfInBounds i true) (a.put oi.dst v) → wpHead P md ops C n L (f + 1) listed a := by
  intro f
  induction f with
  | zero =>
    intro listed a I _ hr hy H
    have hun := (mem_ready.1 hr).1
    refine ⟨fun h => (by rw [h] at hr; cases hr), fun j hj => ?_⟩
    have hjn := gate_shut hg I _ i rfl hin (getD_low hun) j hj
    refine ⟨hjn, ?_⟩
    by_cases hji : j = i
    · subst hji; exact hy.qOp hi H
    · have := hdone _ _ H j (ready_mono hj hji)
      omega
  | succ f ih =>
    intro listed a I hfree hr hy H
    have hun := (mem_ready.1 hr).1
    refine ⟨fun h => (by rw [h] at hr; cases hr), fun j hj => ?_⟩
    have hjn := gate_shut hg I _ i rfl hin (getD_low hun) j hj
    refine ⟨hjn, ?_⟩
    by_cases hji : j = i
    · subst hji; exact hy.qOp hi H
    · have h1 := (H.2 j (ready_mono hj hji)).2
      obtain ⟨hjun, oj, hoj, hall⟩ := mem_ready.1 hj
      have hnot : ∀ e ∈ oj.after, Region.binds md e = true → e.on ≠ i := fun e he hb heq => by
        have h1 := hall e he hb
        rw [heq, getD_low hun] at h1
        cases h1
      have h2 := qOp_put hoj (hfree j oj hoj hji hjun hnot) (fun cs b => hsel i oi cs b hi) (fun cs b => hsel j oj cs b hoj) hy h1
      have hfree' : ∀ k ok, ops[k]? = some ok → k ≠ i → (listed.setIfInBounds j true).getD k true = false →
          (∀ e ∈ ok.after, Region.binds md e = true → e.on ≠ i) → oi.apart ops ok = true := fun k ok hk hki hun hno => by
        refine hfree k ok hk hki ?_ hno
        by_cases hjk : j = k
        · subst hjk; exact hjun
        · rw [getD_set_ne true hjk] at hun; exact hun
      refine qOp_mono (fun a' h3 => ih (listed.setIfInBounds j true) a' (hd_set I hj) hfree' (ready_mono hr (Ne.symm hji)) h3.1 ?_) h2
      rw [Array.setIfInBounds_comm _ _ hji]
      exact h3.2
def headB (md : Region.Mode) (ops : Array Oper) (m : Array Bool) : Nat → Nat → Array Bool → Bool
  | 0, _, listed => listed == m
  | f + 1, k, listed => (Region.ready md ops listed).contains k && Region.free md ops listed k && headB md ops m f (k + 1) (listed.setIfInBounds k true)
theorem head_lex {n : Nat} {m : Array Bool} {Lq : Act → Prop} (hsel : Region.noSelect ops = true) (hg : gateB md ops n = true) (hm : ∀ j ∈ Region.ready md ops m, n ≤ j) :
    ∀ (l : List Oper) (k : Nat) (listed : Array Bool) (a : Act), (∀ j, j < l.length → l[j]? = ops[k + j]?) → k + l.length = n → Hd md ops n listed →
    headB md ops m l.length k listed = true → wpQuiet P ops C Lq l a → wpHead P md ops C n (fun listed' a' => listed' = m ∧ Lq a') l.length listed a
  | [], k, listed, a, _, _, _, hB, h => ⟨by simpa [headB] using hB, h⟩
  | o :: l, k, listed, a, hl, hk, I, hB, h => by
    have h0 : ops[k]? = some o := by simpa using (hl 0 (by simp)).symm
    simp only [List.length_cons, headB, Bool.and_eq_true] at hB
    obtain ⟨⟨hr, hf⟩, hB'⟩ := hB
    have hkn : k < n := by simp only [List.length_cons] at hk; omega
    have hr' : k ∈ Region.ready md ops listed := by simpa using hr
    have hst : qOp P ops C k (wpQuiet P ops C Lq l) a := by unfold qOp; simp only [h0]; exact h
    obtain ⟨v, hy, hK⟩ := yieldsIn_of_qOp h0 hst
    exact head_first h0 (Region.noSelect_spec hsel) hg hkn (fun listed' a' hL => by rw [hL.1]; exact hm) l.length listed a I (Region.free_spec h0 hf) hr' hy
      (head_lex hsel hg hm l (k + 1) _ _ (fun j hj => by have := hl (j + 1) (by simp; omega); simpa [Nat.add_assoc, Nat.add_comm 1 j] using this) (by simp only [List.length_cons] at hk; omega) (hd_set I hr') hB' hK)
def marks (n k : Nat) : Array Bool := (List.replicate n true ++ List.replicate k false).toArray
/-- All that is asked of a region of so many operations, the first n of which only read. -/
def gatedB (md : Region.Mode) (ops : Array Oper) (n : Nat) : Bool :=
  Region.noSelect ops && gateB md ops n && (Region.ready md ops (marks n (ops.size - n))).all (fun j => decide (n ≤ j)) && headB md ops (marks n (ops.size - n)) n 0 (Array.replicate ops.size false)
theorem wp_region_gated {id : Nat} {Q : Exit → Act → World → Prop} {a : Act} {w : World} {l : List Oper} (n g : Nat) (hm : P.follows .mixedOrders = true) (hB : gatedB .any l.toArray n = true) (hg : n + g = l.length)
    (h : wpQuiet P l.toArray (fun w' => ∃ n, w' = w.drewN n) (fun a' => ∀ w', (∃ n, w' = w.drewN n) → wpAny P .any l.toArray Q g (marks n g) a' w') (l.take n) a) : (Code.region id l.toArray true).wp P Q a w := by
  simp only [gatedB, Bool.and_eq_true] at hB
  obtain ⟨⟨⟨hsel, hgt⟩, hrd⟩, hh⟩ := hB
  have hsz : l.toArray.size - n = g := by simp; omega
  rw [hsz] at hrd hh
  have htl : (l.take n).length = n := by simp; omega
  have I0 : Hd .any l.toArray n (Array.replicate l.toArray.size false) :=
    ⟨by simp, fun j oj _ hl => by
      have : (Array.replicate l.toArray.size false).getD j false = false := by
        generalize l.toArray.size = k
        rcases Nat.lt_or_ge j k with h | h
        · simp [h]
        · simp [Array.getElem?_eq_none, h]
      rw [this] at hl
      cases hl⟩
  have H := head_lex (md := .any) hsel hgt (m := marks n g) (fun j hj => by simpa using List.all_eq_true.1 hrd j hj) (l.take n) 0 _ a (fun j hj => by
    have hj' : j < n := by rw [htl] at hj; exact hj
    simp [hj']) (by simpa using htl) I0 (by rw [htl]; exact hh) h
  refine wp_region_any hm ?_
  have := wpAny_of_wpHead (Q' := Q) (g := g) (fun listed a' w' hw' hL => by rw [hL.1]; exact hL.2 w' hw') _ _ _ { w with drawn := w.drawn + 1 } ⟨1, rfl⟩ H
  rw [htl, hg] at this
  simpa using this
end
end Go.Proofs.YtoaidcjjjoafjaaGreatDoor.Ph
