/-
  Chapter 10 (weave): the plain law of WeaveClosed.
-/
import Derived.Test.YtfoogcdpllkeoaaWvJ
namespace Go.Proofs.Ytfoogcdpllkeoaa.Wv

def br (x : Int) : Prop := x = 3 ∨ x = 4 ∨ x = 37
def hole (O : List (Int × Int)) (k : Nat) : Prop := ∃ p ∈ O, (p.1 = 1 ∨ p.1 = 2 ∨ p.1 = 4) ∧ p.2 = (k : Int)

/-- The cells from h0 on are operations, each branch with its operand behind it (R tells the operands). -/
structure Rowed (h0 : Nat) (s : St) (R : Nat → Bool) : Prop where
  len : s.M.length = 1000
  lo : h0 ≤ s.h
  hi : s.h ≤ 1000
  r0 : ∀ k, k ≤ h0 → R k = false
  r1 : ∀ k, s.h ≤ k → R k = false
  r2 : ∀ k, R k = true → R (k + 1) = false
  r3 : ∀ k, h0 ≤ k → k < s.h → R k = false → (R (k + 1) = true ↔ br (s.M.getD k 0))
  r4 : ∀ k, R k = true → hole s.O k ∨ ((h0 : Int) ≤ s.M.getD k 0 ∧ s.M.getD k 0 ≤ s.h)
  r5 : ∀ k, hole s.O k → R k = true
  r6 : ∀ p ∈ s.O, (p.1 = 3 ∨ p.1 = 5) → (h0 : Int) ≤ p.2 ∧ p.2 ≤ s.h

theorem lay_getD (M : List Int) (h : Nat) (L : List Int) (hh : h + L.length ≤ M.length) (k : Nat) :
    (lay M h L).getD k 0 = if k < h then M.getD k 0 else if k < h + L.length then L.getD (k - h) 0 else M.getD k 0 := by
  unfold lay
  simp only [List.getD_eq_getElem?_getD, List.getElem?_append, List.getElem?_take, List.length_take, List.getElem?_drop]
  have : min h M.length = h := by omega
  rw [this]
  split
  · rfl
  · split
    · rename_i h1 h2
      rw [if_pos (by omega)]
    · rename_i h1 h2
      rw [if_neg (by omega)]
      congr 2
      omega

theorem Rowed.one {h0 : Nat} {s : St} {R : Nat → Bool} (H : Rowed h0 s R) (c : Int) (hc : ¬ br c) (hr : s.h + 1 ≤ 1000) : Rowed h0 ⟨lay s.M s.h [c], s.h + 1, s.O⟩ R := by
  have hl : s.h + [c].length ≤ s.M.length := by simp [H.len]; omega
  have hg := lay_getD s.M s.h [c] hl
  simp only [List.length_cons, List.length_nil] at hg
  refine ⟨(lay_length _ _ _ hl).trans H.len, Nat.le_succ_of_le H.lo, hr, H.r0, fun k hk => H.r1 k (by simp only at hk; omega), H.r2, ?_, ?_, H.r5, ?_⟩
  · intro k h1 h2 h3
    simp only at h2 ⊢
    rw [hg]
    by_cases hk : k < s.h
    · rw [if_pos hk]; exact H.r3 k h1 hk h3
    · obtain rfl : k = s.h := by omega
      rw [if_neg hk, if_pos (by omega), H.r1 (s.h + 1) (by omega)]
      simpa using hc
  · intro k hk
    simp only
    rw [hg]
    have hlt : k < s.h := by
      rcases Nat.lt_or_ge k s.h with h | h
      · exact h
      · rw [H.r1 k h] at hk; cases hk
    rw [if_pos hlt]
    rcases H.r4 k hk with h | h
    · exact Or.inl h
    · exact Or.inr ⟨h.1, by omega⟩
  · intro p hp hk
    have := H.r6 p hp hk
    simp only
    omega

theorem Rowed.two {h0 : Nat} {s : St} {R : Nat → Bool} (H : Rowed h0 s R) (c x : Int) (hc : br c) (hr : s.h + 2 ≤ 1000) (O : List (Int × Int))
    (h1 : ∀ k, hole s.O k → hole O k) (h2 : ∀ k, hole O k → hole s.O k ∨ k = s.h + 1) (h3 : hole O (s.h + 1) ∨ ((h0 : Int) ≤ x ∧ x ≤ s.h + 2)) (h4 : ∀ p ∈ O, (p.1 = 3 ∨ p.1 = 5) → p ∈ s.O) :
    Rowed h0 ⟨lay s.M s.h [c, x], s.h + 2, O⟩ (fun k => decide (k = s.h + 1) || R k) := by
  have hl : s.h + [c, x].length ≤ s.M.length := by simp [H.len]; omega
  have hg := lay_getD s.M s.h [c, x] hl
  simp only [List.length_cons, List.length_nil] at hg
  have hlo := H.lo
  refine ⟨(lay_length _ _ _ hl).trans H.len, by simp only; omega, hr, ?_, ?_, ?_, ?_, ?_, ?_, ?_⟩
  · intro k hk
    simp [H.r0 k hk]; omega
  · intro k hk
    simp only at hk
    simp [H.r1 k (by omega)]; omega
  · intro k hk
    simp only [Bool.or_eq_true, decide_eq_true_eq] at hk
    rcases hk with rfl | hk
    · simp [H.r1 (s.h + 1 + 1) (by omega)]
    · have hlt : k < s.h := by
        rcases Nat.lt_or_ge k s.h with h | h
        · exact h
        · rw [H.r1 k h] at hk; cases hk
      simp [H.r2 k hk]; omega
  · intro k g1 g2 g3
    simp only [Bool.or_eq_false_iff, decide_eq_false_iff_not] at g2 g3 ⊢
    rw [hg]
    by_cases hk : k < s.h
    · rw [if_pos hk]
      have := H.r3 k g1 hk g3.2
      rw [← this]
      simp; omega
    · obtain rfl : k = s.h := by omega
      rw [if_neg hk, if_pos (by omega)]
      simpa using hc
  · intro k hk
    simp only [Bool.or_eq_true, decide_eq_true_eq] at hk ⊢
    rw [hg]
    rcases hk with rfl | hk
    · rcases h3 with h | h
      · exact Or.inl h
      · right
        rw [if_neg (by omega), if_pos (by omega), show s.h + 1 - s.h = 1 by omega]
        simp
        omega
    · have hlt : k < s.h := by
        rcases Nat.lt_or_ge k s.h with h | h
        · exact h
        · rw [H.r1 k h] at hk; cases hk
      rw [if_pos hlt]
      rcases H.r4 k hk with h | h
      · exact Or.inl (h1 k h)
      · right; omega
  · intro k hk
    rcases h2 k hk with h | h
    · simp [H.r5 k h]
    · simp [h]
  · intro p hp hk
    have := H.r6 p (h4 p hp hk) hk
    simp only
    omega

theorem Rowed.put {h0 : Nat} {s : St} {R : Nat → Bool} (H : Rowed h0 s R) (q : Nat) (O : List (Int × Int)) (hq : R q = true)
    (h1 : ∀ k, hole s.O k → hole O k ∨ k = q) (h2 : ∀ k, hole O k → hole s.O k) (h4 : ∀ p ∈ O, (p.1 = 3 ∨ p.1 = 5) → p ∈ s.O) :
    Rowed h0 ⟨s.M.set q (s.h : Int), s.h, O⟩ R := by
  have hg : ∀ k, (s.M.set q (s.h : Int)).getD k 0 = if k = q ∧ k < s.M.length then (s.h : Int) else s.M.getD k 0 := by
    intro k
    simp only [List.getD_eq_getElem?_getD, List.getElem?_set]
    by_cases h : q = k
    · subst h
      by_cases h' : q < s.M.length <;> simp [h']
    · rw [if_neg h, if_neg (by omega)]
  refine ⟨by simp [H.len], H.lo, H.hi, H.r0, H.r1, H.r2, ?_, ?_, fun k hk => H.r5 k (h2 k hk), fun p hp hk => H.r6 p (h4 p hp hk) hk⟩
  · intro k g1 g2 g3
    simp only at g2 ⊢
    rw [hg, if_neg (by rintro ⟨rfl, _⟩; rw [hq] at g3; cases g3)]
    exact H.r3 k g1 g2 g3
  · intro k hk
    simp only
    rw [hg]
    have hlo := H.lo
    split
    · right; omega
    · rename_i hn
      rcases H.r4 k hk with h | h
      · rcases h1 k h with h | rfl
        · exact Or.inl h
        · have : k < s.M.length ∨ ¬ k < s.M.length := by omega
          rcases this with h' | h'
          · exact absurd ⟨rfl, h'⟩ hn
          · rw [H.r1 k (by have := H.len; have := H.hi; omega)] at hk; cases hk
      · exact Or.inr h

def wIfThen : ByteArray := ⟨#[84, 104, 101, 110]⟩
/-- What a pending word stands for: the marks that it closes, their word, in great letters too. -/
inductive Seg : List (Int × Int) → ByteArray → ByteArray → Prop
  | then1 (q : Nat) : Seg [(1, (q : Int))] wThen wThen
  | then2 (q : Nat) : Seg [(2, (q : Int))] wIfThen wThen
  | un (t : Int) : Seg [(3, t)] wUntil wUntil
  | lo (t : Int) : Seg [(5, t)] wLoop wLoop
  | re (t : Int) (q : Nat) : Seg [(3, t), (4, (q : Int))] wRepeat wRepeat

theorem hole_app {A B : List (Int × Int)} {k : Nat} : hole (A ++ B) k ↔ hole A k ∨ hole B k := by
  unfold hole
  simp only [List.mem_append]
  constructor
  · rintro ⟨p, h | h, r⟩
    · exact Or.inl ⟨p, h, r⟩
    · exact Or.inr ⟨p, h, r⟩
  · rintro (⟨p, h, r⟩ | ⟨p, h, r⟩)
    · exact ⟨p, Or.inl h, r⟩
    · exact ⟨p, Or.inr h, r⟩
theorem hole_one {a b : Int} {k : Nat} : hole [(a, b)] k ↔ (a = 1 ∨ a = 2 ∨ a = 4) ∧ b = (k : Int) := by
  unfold hole
  constructor
  · rintro ⟨p, h, r⟩
    simp at h; subst h; exact r
  · intro r; exact ⟨(a, b), by simp, r⟩

theorem forward_row {h0 : Nat} {s : St} {R : Nat → Bool} (H : Rowed h0 s R) (hr : s.h + 2 ≤ 1000) (k : Int) (hk : k = 1 ∨ k = 2 ∨ k = 4) :
    forwardR s 4 k = (0, ⟨lay s.M s.h [4, 0], s.h + 2, s.O ++ [(k, (s.h : Int) + 1)]⟩) ∧ ∃ R', Rowed h0 (forwardR s 4 k).2 R' := by
  have e : forwardR s 4 k = (0, ⟨lay s.M s.h [4, 0], s.h + 2, s.O ++ [(k, (s.h : Int) + 1)]⟩) := by
    unfold forwardR; rw [if_pos (by rw [H.len]; exact hr)]
  refine ⟨e, ?_⟩
  rw [e]
  refine ⟨_, H.two 4 0 (by simp [br]) hr _ (fun k h => hole_app.2 (Or.inl h)) (fun j h => ?_) (Or.inl (hole_app.2 (Or.inr (hole_one.2 ⟨hk, by simp⟩)))) (fun p hp h3 => ?_)⟩
  · rcases hole_app.1 h with h | h
    · exact Or.inl h
    · right; have := (hole_one.1 h).2; omega
  · rcases List.mem_append.1 hp with h | h
    · exact h
    · simp at h; subst h; simp at h3; omega

theorem begin_row {h0 : Nat} {s : St} {R : Nat → Bool} (H : Rowed h0 s R) : Rowed h0 ⟨s.M, s.h, s.O ++ [(3, (s.h : Int))]⟩ R := by
  refine ⟨H.len, H.lo, H.hi, H.r0, H.r1, H.r2, H.r3, fun k hk => ?_, fun k hk => ?_, fun p hp hk => ?_⟩
  · rcases H.r4 k hk with h | h
    · exact Or.inl (hole_app.2 (Or.inl h))
    · exact Or.inr h
  · rcases hole_app.1 hk with h | h
    · exact H.r5 k h
    · have := (hole_one.1 h).1; omega
  · have hlo := H.lo
    rcases List.mem_append.1 hp with h | h
    · exact H.r6 p h hk
    · simp at h; subst h; simp; exact hlo

theorem do_row {h0 : Nat} {s : St} {R : Nat → Bool} (H : Rowed h0 s R) (hr : s.h + 1 ≤ 1000) :
    doR s = (0, ⟨lay s.M s.h [36], s.h + 1, s.O ++ [(5, (s.h : Int) + 1)]⟩) ∧ Rowed h0 (doR s).2 R := by
  have e : doR s = (0, ⟨lay s.M s.h [36], s.h + 1, s.O ++ [(5, (s.h : Int) + 1)]⟩) := by
    unfold doR; rw [if_pos (by rw [H.len]; exact hr)]
  refine ⟨e, ?_⟩
  rw [e]
  have H1 := H.one 36 (by simp [br]) hr
  refine ⟨H1.len, H1.lo, H1.hi, H1.r0, H1.r1, H1.r2, H1.r3, fun k hk => ?_, fun k hk => ?_, fun p hp hk => ?_⟩
  · rcases H1.r4 k hk with h | h
    · exact Or.inl (hole_app.2 (Or.inl h))
    · exact Or.inr h
  · rcases hole_app.1 hk with h | h
    · exact H1.r5 k h
    · have := (hole_one.1 h).1; omega
  · have hlo := H.lo
    rcases List.mem_append.1 hp with h | h
    · exact H1.r6 p h hk
    · simp at h; subst h; simp; omega

theorem backward_row {h0 : Nat} {M : List Int} {h : Nat} {O : List (Int × Int)} {k t c : Int} {R : Nat → Bool} (H : Rowed h0 ⟨M, h, O ++ [(k, t)]⟩ R) (hr : h + 2 ≤ 1000) (hk : k = 3 ∨ k = 5) (hc : br c) :
    (backwardR ⟨M, h, O ++ [(k, t)]⟩ O (k, t) c).1 = 0 ∧ (backwardR ⟨M, h, O ++ [(k, t)]⟩ O (k, t) c).2.h = h + 2 ∧ (backwardR ⟨M, h, O ++ [(k, t)]⟩ O (k, t) c).2.O = O ∧
      ∃ R', Rowed h0 (backwardR ⟨M, h, O ++ [(k, t)]⟩ O (k, t) c).2 R' := by
  have hl := H.len
  simp only at hl
  have e : backwardR ⟨M, h, O ++ [(k, t)]⟩ O (k, t) c = (0, ⟨lay M h [c, t], h + 2, O⟩) := by
    unfold backwardR; rw [if_pos (by simp only; omega)]
  rw [e]
  have h6 := H.r6 (k, t) (by simp) (by simpa using hk)
  simp only at h6
  refine ⟨rfl, rfl, rfl, _, H.two c t hc hr O (fun j h => ?_) (fun j h => Or.inl (hole_app.2 (Or.inl h))) (Or.inr ⟨h6.1, by simp only; omega⟩) (fun p hp _ => by simp [hp])⟩
  rcases hole_app.1 h with h | h
  · exact h
  · have := (hole_one.1 h).1; omega

theorem then_row {h0 : Nat} {M : List Int} {h : Nat} {O : List (Int × Int)} {k : Int} {q : Nat} {R : Nat → Bool} (H : Rowed h0 ⟨M, h, O ++ [(k, (q : Int))]⟩ R) (hk : k = 1 ∨ k = 2) :
    Rowed h0 ⟨M.set q (h : Int), h, O⟩ R := by
  have hq := H.r5 q (hole_app.2 (Or.inr (hole_one.2 ⟨by omega, rfl⟩)))
  refine H.put q O hq (fun j h => ?_) (fun j h => hole_app.2 (Or.inl h)) (fun p hp _ => by simp [hp])
  rcases hole_app.1 h with h | h
  · exact Or.inl h
  · right; have := (hole_one.1 h).2; omega

theorem else_row {h0 : Nat} {M : List Int} {h : Nat} {O : List (Int × Int)} {q : Nat} {R : Nat → Bool} (H : Rowed h0 ⟨M, h, O ++ [(1, (q : Int))]⟩ R) (hr : h + 2 ≤ 1000) :
    elseR ⟨M, h, O ++ [(1, (q : Int))]⟩ O q = (0, ⟨(lay M h [3, 0]).set q ((h : Int) + 2), h + 2, O ++ [(2, (h : Int) + 1)]⟩) ∧ ∃ R', Rowed h0 (elseR ⟨M, h, O ++ [(1, (q : Int))]⟩ O q).2 R' := by
  have hl := H.len
  simp only at hl
  have e : elseR ⟨M, h, O ++ [(1, (q : Int))]⟩ O q = (0, ⟨(lay M h [3, 0]).set q ((h : Int) + 2), h + 2, O ++ [(2, (h : Int) + 1)]⟩) := by
    unfold elseR; rw [if_pos (by simp only; omega)]
  refine ⟨e, ?_⟩
  rw [e]
  have H1 := H.two 3 0 (by simp [br]) hr (O ++ [(1, (q : Int))] ++ [(2, (h : Int) + 1)]) (fun k h => hole_app.2 (Or.inl h)) (fun j h => by
    rcases hole_app.1 h with h | h
    · exact Or.inl h
    · right; have := (hole_one.1 h).2; simp only; omega) (Or.inl (hole_app.2 (Or.inr (hole_one.2 ⟨by omega, by simp⟩)))) (fun p hp h3 => by
    rcases List.mem_append.1 hp with h | h
    · exact h
    · simp at h; subst h; simp at h3)
  have H2 := H1.put q (O ++ [(2, (h : Int) + 1)]) (H1.r5 q (hole_app.2 (Or.inl (hole_app.2 (Or.inr (hole_one.2 ⟨by omega, rfl⟩)))))) (fun j h => by
    rcases hole_app.1 h with h | h
    · rcases hole_app.1 h with h | h
      · exact Or.inl (hole_app.2 (Or.inl h))
      · right; have := (hole_one.1 h).2; omega
    · exact Or.inl (hole_app.2 (Or.inr h))) (fun j h => by
    rcases hole_app.1 h with h | h
    · exact hole_app.2 (Or.inl (hole_app.2 (Or.inl h)))
    · exact hole_app.2 (Or.inr h)) (fun p hp h3 => by
    rcases List.mem_append.1 hp with h | h
    · simp [h]
    · simp at h; subst h; simp at h3)
  exact ⟨_, H2⟩

theorem repeat_row {h0 : Nat} {M : List Int} {h : Nat} {O : List (Int × Int)} {t : Int} {q : Nat} {R : Nat → Bool} (H : Rowed h0 ⟨M, h, O ++ [(3, t), (4, (q : Int))]⟩ R) (hr : h + 2 ≤ 1000) :
    repeatR ⟨M, h, O ++ [(3, t), (4, (q : Int))]⟩ O t q = (0, ⟨(lay M h [3, t]).set q ((h : Int) + 2), h + 2, O⟩) ∧ ∃ R', Rowed h0 (repeatR ⟨M, h, O ++ [(3, t), (4, (q : Int))]⟩ O t q).2 R' := by
  have hl := H.len
  simp only at hl
  have e : repeatR ⟨M, h, O ++ [(3, t), (4, (q : Int))]⟩ O t q = (0, ⟨(lay M h [3, t]).set q ((h : Int) + 2), h + 2, O⟩) := by
    unfold repeatR; rw [if_pos (by simp only; omega)]
  refine ⟨e, ?_⟩
  rw [e]
  have h6 := H.r6 (3, t) (by simp) (by simp)
  simp only at h6
  have hh : hole (O ++ [(3, t), (4, (q : Int))]) q := ⟨_, by simp; exact Or.inr (Or.inr rfl), by simp, rfl⟩
  have H1 := H.two 3 t (by simp [br]) hr (O ++ [(3, t), (4, (q : Int))]) (fun k h => h) (fun j h => Or.inl h) (Or.inr ⟨h6.1, by simp only; omega⟩) (fun p hp _ => hp)
  have H2 := H1.put q O (H1.r5 q hh) (fun j h => by
    rcases hole_app.1 h with h | ⟨p, hp, h1, h2⟩
    · exact Or.inl h
    · simp at hp
      rcases hp with rfl | rfl
      · simp at h1
      · right; simp only at h2; omega) (fun j h => hole_app.2 (Or.inl h)) (fun p hp _ => by simp [hp])
  exact ⟨_, H2⟩

/-- What closes the last mark: no fault, at most two cells more, the other marks stay. -/
theorem close_row {h0 : Nat} {M : List Int} {h : Nat} {O o : List (Int × Int)} {w W : ByteArray} (hs : Seg o w W) {R : Nat → Bool} (H : Rowed h0 ⟨M, h, O ++ o⟩ R) (hr : h + 2 ≤ 1000) :
    (formR ⟨M, h, O ++ o⟩ W).1 = 0 ∧ (formR ⟨M, h, O ++ o⟩ W).2.h ≤ h + 2 ∧ (formR ⟨M, h, O ++ o⟩ W).2.O = O ∧ ∃ R', Rowed h0 (formR ⟨M, h, O ++ o⟩ W).2 R' := by
  cases hs with
  | then1 q =>
    have e : formR ⟨M, h, O ++ [(1, (q : Int))]⟩ wThen = (0, ⟨M.set q (h : Int), h, O⟩) := by
      unfold formR
      rw [if_neg (by simp [fitsB, topB, wElse, wThen])]
      simp [wIf, wWhile, wElse, wThen, last_snoc]
    rw [e]
    exact ⟨rfl, by simp, rfl, R, then_row H (by omega)⟩
  | then2 q =>
    have e : formR ⟨M, h, O ++ [(2, (q : Int))]⟩ wThen = (0, ⟨M.set q (h : Int), h, O⟩) := by
      unfold formR
      rw [if_neg (by simp [fitsB, topB, wElse, wThen])]
      simp [wIf, wWhile, wElse, wThen, last_snoc]
    rw [e]
    exact ⟨rfl, by simp, rfl, R, then_row H (by omega)⟩
  | un t =>
    have e : formR ⟨M, h, O ++ [(3, t)]⟩ wUntil = backwardR ⟨M, h, O ++ [(3, t)]⟩ O (3, t) 4 := by
      unfold formR
      rw [if_neg (by simp [fitsB, topB, wElse, wThen, wUntil])]
      simp [wIf, wWhile, wElse, wThen, wBegin, wUntil, last_snoc]
    rw [e]
    have := backward_row (c := 4) H hr (by omega) (by simp [br])
    exact ⟨this.1, by rw [this.2.1]; omega, this.2.2⟩
  | lo t =>
    have e : formR ⟨M, h, O ++ [(5, t)]⟩ wLoop = backwardR ⟨M, h, O ++ [(5, t)]⟩ O (5, t) 37 := by
      unfold formR
      rw [if_neg (by simp [fitsB, topB, wElse, wThen, wUntil, wAgain, wWhile, wRepeat, wLoop])]
      simp [wIf, wWhile, wElse, wThen, wBegin, wUntil, wAgain, wRepeat, wDo, wLoop, last_snoc]
    rw [e]
    have := backward_row (c := 37) H hr (by omega) (by simp [br])
    exact ⟨this.1, by rw [this.2.1]; omega, this.2.2⟩
  | re t q =>
    have e : formR ⟨M, h, O ++ [(3, t), (4, (q : Int))]⟩ wRepeat = repeatR ⟨M, h, O ++ [(3, t), (4, (q : Int))]⟩ O t q := by
      have e2 : O ++ [(3, t), (4, (q : Int))] = (O ++ [(3, t)]) ++ [(4, (q : Int))] := by simp
      unfold formR
      simp only [e2]
      rw [if_neg (by simp [fitsB, topB, wElse, wThen, wUntil, wAgain, wWhile, wRepeat])]
      simp only [List.dropLast_concat, last_snoc]
      simp [wIf, wWhile, wElse, wThen, wBegin, wUntil, wAgain, wRepeat]
    rw [e]
    have h1 := (repeat_row H hr).1
    have h2 := (repeat_row H hr).2
    rw [h1] at h2 ⊢
    exact ⟨rfl, by simp, rfl, h2⟩

/-- The open words, and the marks that they close. -/
def Pend (O : List (Int × Int)) (P : List ByteArray) : Prop :=
  ∃ L : List (List (Int × Int) × ByteArray × ByteArray), O = L.flatMap (·.1) ∧ P = L.map (·.2.1) ∧ ∀ x ∈ L, Seg x.1 x.2.1 x.2.2

theorem Pend.nil : Pend [] [] := ⟨[], rfl, rfl, fun _ h => by cases h⟩
theorem Pend.snoc {O o : List (Int × Int)} {P : List ByteArray} {w W : ByteArray} (H : Pend O P) (h : Seg o w W) : Pend (O ++ o) (P ++ [w]) := by
  obtain ⟨L, rfl, rfl, hL⟩ := H
  refine ⟨L ++ [(o, w, W)], by simp, by simp, fun x hx => ?_⟩
  rcases List.mem_append.1 hx with h' | h'
  · exact hL x h'
  · simp at h'; subst h'; exact h
theorem Pend.inv {O : List (Int × Int)} {P : List ByteArray} {w : ByteArray} (H : Pend O (P ++ [w])) : ∃ O' o W, O = O' ++ o ∧ Pend O' P ∧ Seg o w W := by
  obtain ⟨L, rfl, hP, hL⟩ := H
  obtain ⟨L1, L2, rfl, h1, h2⟩ := List.map_eq_append_iff.1 hP.symm
  obtain ⟨x, L3, rfl, h3, h4⟩ := List.map_eq_cons_iff.1 h2
  obtain rfl := List.map_eq_nil_iff.1 h4
  subst h3
  exact ⟨L1.flatMap (·.1), x.1, x.2.2, by simp, ⟨L1, rfl, h1.symm, fun y hy => hL y (by simp [hy])⟩, hL x (by simp)⟩
theorem Pend.few {O : List (Int × Int)} {P : List ByteArray} (H : Pend O P) : O.length ≤ 2 * P.length := by
  obtain ⟨L, rfl, rfl, hL⟩ := H
  induction L with
  | nil => simp
  | cons x r ih =>
    have := ih (fun y hy => hL y (by simp [hy]))
    have hx := hL x (by simp)
    have : x.1.length ≤ 2 := by obtain ⟨a, b, c⟩ := x; simp only at hx ⊢; cases hx <;> simp
    simp at *
    omega
theorem Pend.empty {O : List (Int × Int)} (H : Pend O []) : O = [] := by
  have := H.few
  simpa using this
theorem Seg.then1_inv {o : List (Int × Int)} {W : ByteArray} (h : Seg o wThen W) : ∃ q : Nat, o = [(1, (q : Int))] := by
  generalize hw : wThen = w at h
  cases h with
  | then1 q => exact ⟨q, rfl⟩
  | then2 q => simp [wThen, wIfThen] at hw
  | un t => simp [wThen, wUntil] at hw
  | lo t => simp [wThen, wLoop] at hw
  | re t q => simp [wThen, wRepeat] at hw

/-- Nothing is open: what the scan sees. -/
theorem Rowed.scan {h0 : Nat} {s : St} {R : Nat → Bool} (H : Rowed h0 s R) (hO : s.O = []) (k : Nat) (h1 : h0 ≤ k) (h2 : k < s.h) (hR : R k = false) :
    (¬ br (s.M.getD k 0) ∧ R (k + 1) = false) ∨ (br (s.M.getD k 0) ∧ k + 1 < s.h ∧ R (k + 2) = false ∧ (h0 : Int) ≤ s.M.getD (k + 1) 0 ∧ s.M.getD (k + 1) 0 ≤ s.h) := by
  have h3 := H.r3 k h1 h2 hR
  by_cases hb : br (s.M.getD k 0)
  · have h4 := h3.2 hb
    refine Or.inr ⟨hb, ?_, H.r2 _ h4, ?_⟩
    · rcases Nat.lt_or_ge (k + 1) s.h with h | h
      · exact h
      · rw [H.r1 _ h] at h4; cases h4
    · rcases H.r4 _ h4 with h | h
      · obtain ⟨p, hp, _⟩ := h
        rw [hO] at hp; cases hp
      · exact h
  · refine Or.inl ⟨hb, ?_⟩
    cases hx : R (k + 1)
    · rfl
    · exact absurd (h3.1 hx) hb

/-- Behind i rounds. -/
def Tidy (h0 i : Nat) (s : St) (P : List ByteArray) : Prop := (∃ R, Rowed h0 s R) ∧ Pend s.O P ∧ s.h ≤ h0 + 2 * i ∧ P.length ≤ i

theorem Tidy.low {h0 i : Nat} {s : St} {P : List ByteArray} (H : Tidy h0 i s P) : s.O.length ≤ 2 * i := by
  obtain ⟨_, h1, _, h2⟩ := H
  have := h1.few
  omega
theorem Tidy.up {h0 i : Nat} {s : St} {P : List ByteArray} (H : Tidy h0 i s P) : Tidy h0 (i + 1) s P := by
  obtain ⟨h1, h2, h3, h4⟩ := H
  exact ⟨h1, h2, by omega, by omega⟩
theorem inv_if {h0 i : Nat} {s : St} {P : List ByteArray} (H : Tidy h0 i s P) (hi : h0 + 2 * i + 2 ≤ 1000) : Tidy h0 (i + 1) (formR s wIf).2 (P ++ [wThen]) := by
  obtain ⟨⟨R, h1⟩, h2, h3, h4⟩ := H
  have e : formR s wIf = forwardR s 4 1 := by
    unfold formR
    rw [if_neg (by simp [fitsB, wElse, wThen, wUntil, wAgain, wWhile, wRepeat, wLoop, wPlus, wIf])]
    simp [wIf]
  have h5 := forward_row h1 (by omega) 1 (by omega)
  rw [e]
  refine ⟨h5.2, ?_, ?_, by simp; omega⟩
  · rw [h5.1]
    exact h2.snoc (Seg.then1 (s.h + 1))
  · rw [h5.1]; simp only; omega
theorem inv_begin {h0 i : Nat} {s : St} {P : List ByteArray} (H : Tidy h0 i s P) : formR s wBegin = (0, ⟨s.M, s.h, s.O ++ [(3, (s.h : Int))]⟩) ∧ Tidy h0 (i + 1) (formR s wBegin).2 (P ++ [wUntil]) := by
  obtain ⟨⟨R, h1⟩, h2, h3, h4⟩ := H
  have e : formR s wBegin = (0, ⟨s.M, s.h, s.O ++ [(3, (s.h : Int))]⟩) := by
    unfold formR
    rw [if_neg (by simp [fitsB, wElse, wThen, wUntil, wAgain, wWhile, wRepeat, wLoop, wPlus, wBegin])]
    simp [wIf, wWhile, wElse, wThen, wBegin]
  rw [e]
  exact ⟨rfl, ⟨R, begin_row h1⟩, h2.snoc (Seg.un _), by simp only; omega, by simp; omega⟩
theorem inv_do {h0 i : Nat} {s : St} {P : List ByteArray} (H : Tidy h0 i s P) (hi : h0 + 2 * i + 2 ≤ 1000) : Tidy h0 (i + 1) (formR s wDo).2 (P ++ [wLoop]) := by
  obtain ⟨⟨R, h1⟩, h2, h3, h4⟩ := H
  have e : formR s wDo = doR s := by
    unfold formR
    rw [if_neg (by simp [fitsB, wElse, wThen, wUntil, wAgain, wWhile, wRepeat, wLoop, wPlus, wDo])]
    simp [wIf, wWhile, wElse, wThen, wBegin, wUntil, wAgain, wRepeat, wDo]
  have h5 := do_row h1 (by omega)
  rw [e]
  refine ⟨⟨R, h5.2⟩, ?_, ?_, by simp; omega⟩
  · rw [h5.1]
    exact h2.snoc (Seg.lo _)
  · rw [h5.1]; simp only; omega
theorem inv_while {h0 i : Nat} {s : St} {P : List ByteArray} (H : Tidy h0 i s P) (hi : h0 + 2 * i + 2 ≤ 1000) : Tidy h0 (i + 1) (formR (formR s wBegin).2 wWhile).2 (P ++ [wRepeat]) := by
  rw [(inv_begin H).1]
  obtain ⟨⟨R, h1⟩, h2, h3, h4⟩ := H
  have h6 := begin_row h1
  have e : formR ⟨s.M, s.h, s.O ++ [(3, (s.h : Int))]⟩ wWhile = forwardR ⟨s.M, s.h, s.O ++ [(3, (s.h : Int))]⟩ 4 4 := by
    unfold formR
    rw [if_neg (by simp [fitsB, topB, wElse, wThen, wUntil, wAgain, wWhile, wRepeat, wLoop, wPlus, wIf])]
    simp [wIf, wWhile]
  have h5 := forward_row h6 (by simp only; omega) 4 (by omega)
  show Tidy h0 (i + 1) (formR ⟨s.M, s.h, s.O ++ [(3, (s.h : Int))]⟩ wWhile).2 _
  rw [e]
  refine ⟨h5.2, ?_, ?_, by simp; omega⟩
  · rw [h5.1]
    have := h2.snoc (Seg.re (s.h : Int) (s.h + 1))
    simpa using this
  · rw [h5.1]; simp only; omega
theorem inv_else {h0 i : Nat} {s : St} {P : List ByteArray} (H : Tidy h0 i s (P ++ [wThen])) (hi : h0 + 2 * i + 2 ≤ 1000) : (formR s wElse).1 = 0 ∧ Tidy h0 (i + 1) (formR s wElse).2 (P ++ [wIfThen]) := by
  obtain ⟨⟨R, h1⟩, h2, h3, h4⟩ := H
  obtain ⟨O', o, W, h5, h6, h7⟩ := h2.inv
  obtain ⟨q, rfl⟩ := h7.then1_inv
  obtain ⟨M, h, O⟩ := s
  simp only at h5 h3
  subst h5
  have e : formR ⟨M, h, O' ++ [(1, (q : Int))]⟩ wElse = elseR ⟨M, h, O' ++ [(1, (q : Int))]⟩ O' q := by
    unfold formR
    rw [if_neg (by simp [fitsB, topB, wElse])]
    simp [wIf, wWhile, wElse, last_snoc]
  rw [e]
  have h8 := else_row h1 (by omega)
  refine ⟨by rw [h8.1], h8.2, ?_, by rw [h8.1]; simp only; omega, by simp at h4 ⊢; omega⟩
  rw [h8.1]
  exact h6.snoc (Seg.then2 (h + 1))
theorem inv_op {h0 i : Nat} {s : St} {P : List ByteArray} (H : Tidy h0 i s P) (hi : h0 + 2 * i + 2 ≤ 1000) : Tidy h0 (i + 1) (opR s 6).2 P := by
  obtain ⟨⟨R, h1⟩, h2, h3, h4⟩ := H
  have e : opR s 6 = (0, ⟨lay s.M s.h [6], s.h + 1, s.O⟩) := by
    unfold opR layR
    rw [if_pos (by decide), if_pos (by have := h1.len; simp; omega)]
    rfl
  rw [e]
  exact ⟨⟨R, h1.one 6 (by simp [br]) (by omega)⟩, h2, by simp only; omega, by omega⟩
theorem inv_close {h0 i : Nat} {s : St} {P : List ByteArray} {w : ByteArray} (H : Tidy h0 i s (P ++ [w])) (hi : h0 + 2 * i + 2 ≤ 1000) :
    ∃ W, (⟨(ups w).toArray⟩ : ByteArray) = W ∧ w.size ≤ 100000 ∧ (formR s W).1 = 0 ∧ Tidy h0 (i + 1) (formR s W).2 P := by
  obtain ⟨⟨R, h1⟩, h2, h3, h4⟩ := H
  obtain ⟨O', o, W, h5, h6, h7⟩ := h2.inv
  obtain ⟨M, h, O⟩ := s
  simp only at h5 h3
  subst h5
  obtain ⟨k1, k2, k3, k4⟩ := close_row h7 h1 (by omega)
  refine ⟨W, by cases h7 <;> decide, by cases h7 <;> decide, k1, k4, by rw [k3]; exact h6, by omega, by simp at h4; omega⟩

theorem tidy_start (h0 : Nat) (hh : h0 ≤ 100) : Tidy h0 0 ⟨List.replicate 1000 0, h0, []⟩ [] := by
  refine ⟨⟨fun _ => false, List.length_replicate, Nat.le_refl _, by simp only; omega, fun _ _ => rfl, fun _ _ => rfl, (fun _ h => by cases h), ?_, (fun _ h => by cases h), ?_, (fun _ h => by cases h)⟩, Pend.nil, Nat.le_refl _, Nat.le_refl _⟩
  · intro k h1 h2 _
    simp only at h2
    omega
  · rintro k ⟨p, hp, _⟩
    cases hp

end Go.Proofs.Ytfoogcdpllkeoaa.Wv
