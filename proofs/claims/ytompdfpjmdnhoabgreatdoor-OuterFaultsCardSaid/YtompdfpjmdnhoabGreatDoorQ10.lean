/-
  Lemmas on the way, for every input that they name: OuT, OuU, OuW, OuY.
-/
import Derived.Test.YtompdfpjmdnhoabGreatDoorQ06
import Derived.Test.YtompdfpjmdnhoabGreatDoorQ08
import Derived.Test.YtompdfpjmdnhoabGreatDoorQ09
set_option linter.unusedVariables false
set_option linter.unusedSimpArgs false
set_option linter.deprecated false
namespace Go.Proofs.YtompdfpjmdnhoabGreatDoor.Ou
open Go.RowKit Go.Proofs.YtompdfpjmdnhoabGreatDoor.Mc Go.Proofs.YtompdfpjmdnhoabGreatDoor.Src
inductive Tk where
  | c (b : UInt8)
  | n (v b : Int)
  | d (v : Int)
def Tk.bytes : Tk → List UInt8
  | .c b => [b]
  | .n v b => Dg.putV v b
  | .d v => 36 :: Dg.putV v 16
def flat (l : List Tk) : List UInt8 := l.flatMap Tk.bytes
def bs (l : List UInt8) : List Tk := l.map .c
def Tk.Ok : Tk → Prop
  | .c _ => True
  | .n v b => In v ∧ 2 ≤ b ∧ b ≤ 36
  | .d v => In v
def Tk.okB (b : Int) : Bool := decide (2 ≤ b) && decide (b ≤ 36)
def blankT : Tk → Bool
  | .c b => isB true b
  | _ => false
def ended : List Tk → Bool
  | [] => true
  | t :: _ => blankT t
def takeC : List Tk → Option (List UInt8 × List Tk)
  | [] => some ([], [])
  | .c b :: r => if isB true b = true then some ([], .c b :: r) else (takeC r).map fun q => (b :: q.1, q.2)
  | _ => none
inductive Wt where
  | lit (l : List UInt8)
  | n (v b : Int)
  | d (v : Int)
def Wt.bytes : Wt → List UInt8
  | .lit l => l
  | .n v b => Dg.putV v b
  | .d v => 36 :: Dg.putV v 16
def nextT (l : List Tk) : Option (Option Wt × List Tk) :=
  match l.dropWhile blankT with
  | [] => some (none, [])
  | .n v b :: r => if ended r = true then some (some (.n v b), r.drop 1) else none
  | .d v :: r => if ended r = true then some (some (.d v), r.drop 1) else none
  | .c b :: r => (takeC (.c b :: r)).map fun q => (some (.lit q.1), q.2.drop 1)
def untilT (c : UInt8) : List Tk → Option (List UInt8 × List Tk)
  | [] => some ([], [])
  | .c b :: r => if b = c then some ([], r) else (untilT c r).map fun q => (b :: q.1, q.2)
  | _ => none
theorem putV_nb (v b : Int) (h : 2 ≤ b ∧ b ≤ 36) : ∀ c ∈ Dg.putV v b, isB true c = false := by
  intro c hc
  unfold Dg.putV at hc
  rw [if_neg (by omega)] at hc
  rcases List.mem_append.1 hc with hc | hc
  · split at hc
    · simp at hc; subst hc; decide
    · simp at hc
  · obtain ⟨k, hk, rfl⟩ := Dg.putL_mem b.toNat v.natAbs (by omega) (by omega) c hc
    have : ∀ k : Fin 36, isB true (Dg.dig k.1) = false := by decide
    exact this ⟨k, hk⟩
theorem putV_ne (v b : Int) (h : 2 ≤ b ∧ b ≤ 36) : Dg.putV v b ≠ [] := by
  obtain ⟨c, r, e, _⟩ := Dg.putV_head v b h.1 h.2
  rw [e]; simp
theorem isB_neg (c : UInt8) : isB false c = !isB true c := by unfold isB; cases decide (c.toNat ≤ 32) <;> rfl
theorem flat_skip (l : List Tk) (ok : ∀ t ∈ l, t.Ok) : flat (l.dropWhile blankT) = (flat l).dropWhile (isB true) := by
  induction l with
  | nil => rfl
  | cons t r ih =>
    have okr : ∀ t ∈ r, t.Ok := fun t ht => ok t (List.mem_cons_of_mem _ ht)
    cases t with
    | c b =>
      have e : flat (.c b :: r) = b :: flat r := rfl
      rw [e]
      by_cases hb : isB true b = true
      · rw [List.dropWhile_cons_of_pos (show blankT (.c b) = true from hb), List.dropWhile_cons_of_pos hb]; exact ih okr
      · rw [List.dropWhile_cons_of_neg (show ¬ blankT (.c b) = true from hb), List.dropWhile_cons_of_neg hb]; rfl
    | n v b =>
      have hk := ok _ (List.mem_cons_self ..)
      obtain ⟨c, q, e, _⟩ := Dg.putV_head v b hk.2.1 hk.2.2
      have hc := putV_nb v b hk.2 c (by rw [e]; exact List.mem_cons_self ..)
      have e2 : flat (.n v b :: r) = c :: (q ++ flat r) := by show Dg.putV v b ++ flat r = _; rw [e]; rfl
      rw [List.dropWhile_cons_of_neg (show ¬ blankT (.n v b) = true from by simp [blankT]), e2, List.dropWhile_cons_of_neg (by rw [hc]; simp)]
    | d v =>
      have hc : isB true 36 = false := by decide
      have e2 : flat (.d v :: r) = 36 :: (Dg.putV v 16 ++ flat r) := rfl
      rw [List.dropWhile_cons_of_neg (show ¬ blankT (.d v) = true from by simp [blankT]), e2, List.dropWhile_cons_of_neg (by rw [hc]; simp)]
theorem takeWhile_all {p : UInt8 → Bool} (a b : List UInt8) (h : ∀ c ∈ a, p c = true) (hb : b = [] ∨ ∃ c r, b = c :: r ∧ p c = false) : (a ++ b).takeWhile p = a ∧ (a ++ b).dropWhile p = b := by
  induction a with
  | nil =>
    rcases hb with rfl | ⟨c, r, rfl, hc⟩
    · exact ⟨rfl, rfl⟩
    · simp [List.takeWhile_cons, List.dropWhile_cons, hc]
  | cons x r ih =>
    obtain ⟨h1, h2⟩ := ih fun c hc => h c (List.mem_cons_of_mem _ hc)
    have hx := h x (List.mem_cons_self ..)
    simp [List.takeWhile_cons, List.dropWhile_cons, hx, h1, h2]
theorem ended_flat {r : List Tk} (h : ended r = true) : (flat r = [] ∧ r = []) ∨ ∃ c q, r = .c c :: q ∧ flat r = c :: flat q ∧ isB false c = false := by
  cases r with
  | nil => exact .inl ⟨rfl, rfl⟩
  | cons t q =>
    cases t with
    | c b =>
      refine .inr ⟨b, q, rfl, rfl, ?_⟩
      rw [isB_neg]
      have : isB true b = true := h
      rw [this]; rfl
    | n v b => cases h
    | d v => cases h
theorem drop1_flat {r : List Tk} (h : ended r = true) : flat (r.drop 1) = (flat r).drop 1 := by
  rcases ended_flat h with ⟨h1, rfl⟩ | ⟨c, q, rfl, h2, _⟩
  · rfl
  · rw [h2]; rfl
theorem num_end (a : List UInt8) (r : List Tk) (ha : ∀ c ∈ a, isB true c = false) (h : ended r = true) : (a ++ flat r).takeWhile (isB false) = a ∧ ((a ++ flat r).dropWhile (isB false)).drop 1 = flat (r.drop 1) := by
  have hb : flat r = [] ∨ ∃ c q, flat r = c :: q ∧ isB false c = false := by
    rcases ended_flat h with ⟨h1, _⟩ | ⟨c, q, _, h2, h3⟩
    · exact .inl h1
    · exact .inr ⟨c, _, h2, h3⟩
  obtain ⟨h1, h2⟩ := takeWhile_all (p := isB false) a (flat r) (fun c hc => by rw [isB_neg, ha c hc]; rfl) hb
  rw [h1, h2, drop1_flat h]
  exact ⟨rfl, rfl⟩
theorem takeC_flat : ∀ (l : List Tk) (q : List UInt8 × List Tk), takeC l = some q → (flat l).takeWhile (isB false) = q.1 ∧ ((flat l).dropWhile (isB false)).drop 1 = flat (q.2.drop 1) ∧ ∀ t ∈ q.2, t ∈ l
  | [], q, h => by injection h with h; subst h; exact ⟨rfl, rfl, fun _ h => h⟩
  | .c b :: r, q, h => by
    unfold takeC at h
    by_cases hb : isB true b = true
    · rw [if_pos hb] at h
      injection h with h
      subst h
      have hf : isB false b = false := by rw [isB_neg, hb]; rfl
      have e : flat (.c b :: r) = b :: flat r := rfl
      rw [e, List.takeWhile_cons, List.dropWhile_cons, hf]
      exact ⟨rfl, rfl, fun _ h => h⟩
    · rw [if_neg hb] at h
      cases hr : takeC r with
      | none => rw [hr] at h; cases h
      | some p =>
        rw [hr] at h
        injection h with h
        subst h
        obtain ⟨h1, h2, h3⟩ := takeC_flat r p hr
        have hf : isB false b = true := by rw [isB_neg]; simpa using hb
        have e : flat (.c b :: r) = b :: flat r := rfl
        rw [e, List.takeWhile_cons, List.dropWhile_cons, hf]
        exact ⟨by simp [h1], by simpa using h2, fun t ht => List.mem_cons_of_mem _ (h3 t ht)⟩
  | .n _ _ :: _, _, h => by cases h
  | .d _ :: _, _, h => by cases h
theorem nextT_some (l : List Tk) (ok : ∀ t ∈ l, t.Ok) (w : Wt) (r : List Tk) (h : nextT l = some (some w, r)) :
    ((flat l).dropWhile (isB true)).isEmpty = false ∧ ((flat l).dropWhile (isB true)).takeWhile (isB false) = w.bytes ∧ (((flat l).dropWhile (isB true)).dropWhile (isB false)).drop 1 = flat r ∧ (∀ t ∈ r, t.Ok) := by
  rw [← flat_skip l ok]
  have ok2 : ∀ t ∈ l.dropWhile blankT, t.Ok := fun t ht => ok t ((List.dropWhile_sublist _).subset ht)
  unfold nextT at h
  split at h
  · cases h
  · rename_i v b q hq
    rw [hq] at ok2 ⊢
    have hk := ok2 _ (List.mem_cons_self ..)
    split at h
    · rename_i he
      injection h with h
      injection h with h1 h2
      injection h1 with h1
      subst h1 h2
      have e : flat (.n v b :: q) = Dg.putV v b ++ flat q := rfl
      obtain ⟨n1, n2⟩ := num_end (Dg.putV v b) q (putV_nb v b hk.2) he
      have hne := putV_ne v b hk.2
      refine ⟨by rw [e]; simp [hne], by rw [e]; exact n1, by rw [e]; exact n2, fun t ht => ok2 t (List.mem_cons_of_mem _ (List.mem_of_mem_drop ht))⟩
    · cases h
  · rename_i v q hq
    rw [hq] at ok2 ⊢
    have hk := ok2 _ (List.mem_cons_self ..)
    split at h
    · rename_i he
      injection h with h
      injection h with h1 h2
      injection h1 with h1
      subst h1 h2
      have e : flat (.d v :: q) = (36 :: Dg.putV v 16) ++ flat q := rfl
      have hnb : ∀ c ∈ (36 :: Dg.putV v 16), isB true c = false := by
        intro c hc
        rcases List.mem_cons.1 hc with rfl | hc
        · decide
        · exact putV_nb v 16 (by decide) c hc
      obtain ⟨n1, n2⟩ := num_end (36 :: Dg.putV v 16) q hnb he
      refine ⟨by rw [e]; rfl, by rw [e]; exact n1, by rw [e]; exact n2, fun t ht => ok2 t (List.mem_cons_of_mem _ (List.mem_of_mem_drop ht))⟩
    · cases h
  · rename_i b q hq
    rw [hq] at ok2 ⊢
    cases ht : takeC (.c b :: q) with
    | none => rw [ht] at h; cases h
    | some p =>
      rw [ht] at h
      injection h with h
      injection h with h1 h2
      injection h1 with h1
      subst h1 h2
      obtain ⟨t1, t2, t3⟩ := takeC_flat _ p ht
      exact ⟨rfl, t1, t2, fun t ht => ok2 t (t3 t (List.mem_of_mem_drop ht))⟩
theorem nextT_none (l : List Tk) (ok : ∀ t ∈ l, t.Ok) (r : List Tk) (h : nextT l = some (none, r)) : ((flat l).dropWhile (isB true)) = [] ∧ r = [] := by
  rw [← flat_skip l ok]
  unfold nextT at h
  split at h
  · rename_i hq
    injection h with h
    injection h with _ h
    subst h
    rw [hq]
    exact ⟨rfl, rfl⟩
  · split at h <;> simp at h
  · split at h <;> simp at h
  · rename_i b q hq
    cases ht : takeC (.c b :: q) with
    | none => rw [ht] at h; cases h
    | some p => rw [ht] at h; simp at h
theorem untilT_flat (c : UInt8) : ∀ (l : List Tk) (q : List UInt8 × List Tk), untilT c l = some q → (flat l).takeWhile (fun x => x != c) = q.1 ∧ ((flat l).dropWhile (fun x => x != c)).drop 1 = flat q.2 ∧ ∀ t ∈ q.2, t ∈ l
  | [], q, h => by injection h with h; subst h; exact ⟨rfl, rfl, fun _ h => h⟩
  | .c b :: r, q, h => by
    unfold untilT at h
    have e : flat (.c b :: r) = b :: flat r := rfl
    by_cases hb : b = c
    · rw [if_pos hb] at h
      injection h with h
      subst h
      rw [e, List.takeWhile_cons, List.dropWhile_cons, hb]
      simp
      exact fun t ht => .inr ht
    · rw [if_neg hb] at h
      cases hr : untilT c r with
      | none => rw [hr] at h; cases h
      | some p =>
        rw [hr] at h
        injection h with h
        subst h
        obtain ⟨h1, h2, h3⟩ := untilT_flat c r p hr
        have hf : (b != c) = true := by simpa using hb
        rw [e, List.takeWhile_cons, List.dropWhile_cons, hf]
        exact ⟨by simp [h1], by simpa using h2, fun t ht => List.mem_cons_of_mem _ (h3 t ht)⟩
  | .n _ _ :: _, _, h => by cases h
  | .d _ :: _, _, h => by cases h
def looks (b : Int) (u : List UInt8) : Bool := !(Dg.minusS u).1.isEmpty && (Dg.minusS u).1.all (fun c => decide (0 ≤ Dg.worth c) && decide (Dg.worth c < b))
def noNum (b : Int) (ws : List Wd) : Bool := ws.all fun x => !looks b (ups x.name)
def noDol (ws : List Wd) : Bool := ws.all fun x => (ups x.name).headD 0 != 36
theorem putL_lt (b n : Nat) (hb : 2 ≤ b) (hb' : b ≤ 36) : ∀ c ∈ Dg.putL b n, ∃ k, k < b ∧ c = Dg.dig k := by
  induction n using Nat.strongRecOn with
  | _ n ih =>
    by_cases h : b ≤ n
    · rw [Dg.putL_step b n hb h]
      intro c hc
      rcases List.mem_append.1 hc with hc | hc
      · exact ih (n / b) (Nat.div_lt_self (by omega) (by omega)) c hc
      · simp at hc
        exact ⟨n % b, Nat.mod_lt n (by omega), hc⟩
    · rw [Dg.putL_small b n (by omega)]
      intro c hc
      simp at hc
      exact ⟨n, by omega, hc⟩
theorem minus_put (v b : Int) (h : 2 ≤ b ∧ b ≤ 36) : (Dg.minusS (Dg.putV v b)).1 = Dg.putL b.toNat v.natAbs := by
  unfold Dg.putV
  rw [if_neg (by omega)]
  by_cases hv : v < 0
  · rw [if_pos hv]; rfl
  · rw [if_neg hv]
    have hne := Dg.putL_pos b.toNat v.natAbs
    obtain ⟨c, r, e⟩ := List.exists_cons_of_ne_nil hne
    have hm : c ∈ Dg.putL b.toNat v.natAbs := by rw [e]; exact List.mem_cons_self ..
    obtain ⟨k, hk, rfl⟩ := Dg.putL_mem _ _ (by omega) (by omega) c hm
    rw [List.nil_append, e]
    unfold Dg.minusS
    dsimp only
    rw [if_neg (Dg.dig_not k hk).2.2.2.2]
theorem looks_put (v b : Int) (h : 2 ≤ b ∧ b ≤ 36) : looks b (Dg.putV v b) = true := by
  unfold looks
  rw [minus_put v b h, Bool.and_eq_true, List.all_eq_true]
  refine ⟨by simp [Dg.putL_pos], fun c hc => ?_⟩
  obtain ⟨k, hk, rfl⟩ := putL_lt b.toNat v.natAbs (by omega) (by omega) c hc
  rw [Dg.dig_worth k (by omega)]
  simp
  omega
theorem up_put (v b : Int) (h : 2 ≤ b ∧ b ≤ 36) : (Dg.putV v b).map Wv.up = Dg.putV v b := by
  rw [List.map_congr_left (g := id), List.map_id]
  intro c hc
  unfold Dg.putV at hc
  rw [if_neg (by omega)] at hc
  rcases List.mem_append.1 hc with hc | hc
  · split at hc
    · simp at hc; subst hc; decide
    · simp at hc
  · obtain ⟨k, hk, rfl⟩ := Dg.putL_mem b.toNat v.natAbs (by omega) (by omega) c hc
    have : ∀ k : Fin 36, Wv.up (Dg.dig k.1) = Dg.dig k.1 := by decide
    exact this ⟨k, hk⟩
theorem findIx_none (ws : List Wd) (n : ByteArray) (k : Nat) (hk : k ≤ ws.length) (h : ∀ x ∈ ws, same x.name n = false) : findIx ws n k = none := by
  induction k with
  | zero => rfl
  | succ k ih =>
    unfold findIx
    have : ws.getD k wd0 ∈ ws := by
      rw [List.getD_eq_getElem?_getD, List.getElem?_eq_getElem (by omega)]
      exact List.getElem_mem _
    rw [h _ this]
    exact ih (by omega)
theorem find_none {ws : List Wd} {n : ByteArray} (h : ∀ x ∈ ws, same x.name n = false) : find ws n = none := by
  unfold find
  rw [findIx_none ws n ws.length (Nat.le_refl _) h]
  rfl
theorem find_num (ws : List Wd) (v b : Int) (h : 2 ≤ b ∧ b ≤ 36) (hn : noNum b ws = true) : find ws ⟨(Dg.putV v b).toArray⟩ = none := by
  refine find_none fun x hx => ?_
  unfold noNum at hn
  have h1 := List.all_eq_true.1 hn x hx
  cases hs : same x.name ⟨(Dg.putV v b).toArray⟩ with
  | false => rfl
  | true =>
    unfold same at hs
    have e : ups x.name = ups ⟨(Dg.putV v b).toArray⟩ := by simpa using hs
    have e2 : ups ⟨(Dg.putV v b).toArray⟩ = Dg.putV v b := by
      show ((Dg.putV v b).toArray.toList).map Wv.up = _
      rw [List.toList_toArray]
      exact up_put v b h
    rw [e, e2, looks_put v b h] at h1
    cases h1
theorem find_dol (ws : List Wd) (v : Int) (hn : noDol ws = true) : find ws ⟨(36 :: Dg.putV v 16).toArray⟩ = none := by
  refine find_none fun x hx => ?_
  unfold noDol at hn
  have h1 := List.all_eq_true.1 hn x hx
  cases hs : same x.name ⟨(36 :: Dg.putV v 16).toArray⟩ with
  | false => rfl
  | true =>
    unfold same at hs
    have e : ups x.name = ups ⟨(36 :: Dg.putV v 16).toArray⟩ := by simpa using hs
    rw [e] at h1
    exact absurd h1 (by
      have : (ups ⟨(36 :: Dg.putV v 16).toArray⟩).headD 0 = 36 := rfl
      rw [this]; decide)
def ownAll : List (List UInt8) := idleL ++ busyL ++ bothL
theorem ownC_zero {u : List UInt8} (h : u ∉ ownAll) : ownC u = 0 := by
  unfold ownAll at h
  simp only [List.mem_append, not_or] at h
  unfold ownC
  rw [if_neg (by simpa using h.1.1), if_neg (by simpa using h.1.2), if_neg (by simpa using h.2)]
theorem own_num (v b : Int) (h : 2 ≤ b ∧ b ≤ 16) : ownC (ups ⟨(Dg.putV v b).toArray⟩) = 0 := by
  have e2 : ups ⟨(Dg.putV v b).toArray⟩ = Dg.putV v b := by
    show ((Dg.putV v b).toArray.toList).map Wv.up = _
    rw [List.toList_toArray]
    exact up_put v b (by omega)
  rw [e2]
  apply ownC_zero
  intro hm
  have hl := looks_put v b (by omega)
  have hl16 : looks 16 (Dg.putV v b) = true := by
    unfold looks at hl ⊢
    rw [Bool.and_eq_true, List.all_eq_true] at hl ⊢
    refine ⟨hl.1, fun c hc => ?_⟩
    have := hl.2 c hc
    simp at this ⊢
    omega
  have : ∀ u ∈ ownAll, looks 16 u = false := by decide
  rw [this _ hm] at hl16
  cases hl16
theorem own_dol (v : Int) : ownC (ups ⟨(36 :: Dg.putV v 16).toArray⟩) = 0 := by
  apply ownC_zero
  intro hm
  have : ∀ u ∈ ownAll, u.headD 0 ≠ 36 := by decide
  exact this _ hm rfl
end Go.Proofs.YtompdfpjmdnhoabGreatDoor.Ou
namespace Go.Proofs.YtompdfpjmdnhoabGreatDoor.Ou
open Go.RowKit Go.Proofs.YtompdfpjmdnhoabGreatDoor.Mc Go.Proofs.YtompdfpjmdnhoabGreatDoor.Src
def put (y : ByteArray) (l : Option (List UInt8)) (o : OS) : OS := { o with m := outS y o.m, line := l }
def Lifts (f : OS → R) : Prop := ∀ y l o, f (put y l o) = ((f o).1, put y l (f o).2)
theorem pop_put (y : ByteArray) (l : Option (List UInt8)) (o : OS) : pop (put y l o) = ((pop o).1, (pop o).2.1, put y l (pop o).2.2) := by
  rcases o with ⟨⟨ip, hd, st, bk, me, ou, inp, rd, stat, cd⟩, ws, he, ba, li, dr, ru, la, ld⟩
  dsimp only [pop, put, outS]
  split <;> rfl
theorem push_lifts (v : Int) : Lifts (push · v) := by
  rintro y l ⟨⟨ip, hd, st, bk, me, ou, inp, rd, stat, cd⟩, ws, he, ba, li, dr, ru, la, ld⟩
  dsimp only [push, put, outS]
  split <;> rfl
theorem wv_lifts (f : Wv.St → Int × Wv.St) : Lifts (wv · f) := by
  rintro y l ⟨⟨ip, hd, st, bk, me, ou, inp, rd, stat, cd⟩, ws, he, ba, li, dr, ru, la, ld⟩
  cases dr <;> rfl
theorem lit_lifts (v : Int) : Lifts (lit · v) := wv_lifts _
theorem opW_lifts (c : Int) : Lifts (opW · c) := wv_lifts _
theorem literal_lifts (v : Int) : Lifts (literal · v) := by
  intro y l o
  have h1 := push_lifts v y l o
  have h2 := lit_lifts v y l o
  dsimp only at h1 h2 ⊢
  unfold literal
  have e : (put y l o).draft = o.draft := rfl
  rw [e]
  split
  · exact h2
  · exact h1
theorem found_lifts (x : Wd) : Lifts (found · x) := by
  intro y l o
  have h1 := opW_lifts x.op y l o
  have h2 := wv_lifts (fun s => Wv.callR s x.xt) y l o
  dsimp only at h1 h2 ⊢
  unfold found
  have e : (put y l o).draft = o.draft := rfl
  rw [e]
  split
  · rfl
  split
  · exact h1
  · exact h2
theorem define_lifts (n : ByteArray) (C : List Int) : Lifts (define · n C) := by
  intro y l o
  dsimp only
  unfold define
  have e1 : (put y l o).words = o.words := rfl
  have e2 : room (put y l o) C.length = room o C.length := rfl
  rw [e1, e2]
  split
  · rfl
  split
  · rfl
  · rfl
theorem forgetX_lifts (x : Wd) : Lifts (forgetX · x) := by
  intro y l o
  dsimp only
  unfold forgetX
  split <;> rfl
theorem immediate_lifts : Lifts immediate := by
  intro y l o
  unfold immediate
  have e1 : (put y l o).words = o.words := rfl
  rw [e1]
  split <;> rfl
theorem finish_lifts : Lifts finish := by
  intro y l o
  have h1 := opW_lifts 5 y l o
  dsimp only at h1
  unfold finish
  rw [h1]
  generalize opW o 5 = r
  obtain ⟨c, o2⟩ := r
  dsimp only
  split
  · rfl
  · have e : (put y l o2).draft = o2.draft := rfl
    rw [e]
    cases o2.draft with
    | none => rfl
    | some d =>
      dsimp only
      split
      · rfl
      · have e1 : (put y l o2).words = o2.words := rfl
        rw [e1]
        split <;> rfl
theorem sayW_put (y : ByteArray) (l : Option (List UInt8)) : ∀ (t : List UInt8) (o : OS), sayW (put y l o) t = ((sayW o t).1, put y l (sayW o t).2)
  | [], o => rfl
  | c :: t, o => by
    have h1 := lit_lifts c.toNat y l o
    have h2 := opW_lifts 41 y l (lit o c.toNat).2
    dsimp only at h1 h2
    unfold sayW
    rw [h1]
    dsimp only
    rw [h2]
    dsimp only
    split
    · rfl
    split
    · rfl
    · exact sayW_put y l t _
theorem sayW_lifts (t : List UInt8) : Lifts (sayW · t) := fun y l o => sayW_put y l t o
theorem recurse_lifts : Lifts recurse := by
  intro y l o
  unfold recurse
  have e : (put y l o).draft = o.draft := rfl
  rw [e]
  cases o.draft with
  | none => rfl
  | some d => exact wv_lifts (fun s => Wv.callR s d.at_) y l o
theorem litPop_lifts : Lifts litPop := by
  intro y l o
  unfold litPop
  rw [pop_put]
  generalize pop o = r
  obtain ⟨v, c, o2⟩ := r
  dsimp only
  split
  · rfl
  · exact lit_lifts v y l o2
theorem comma_lifts : Lifts comma := by
  intro y l o
  unfold comma
  rw [pop_put]
  generalize pop o = r
  obtain ⟨v, c, o2⟩ := r
  dsimp only
  have e2 : room (put y l o2) 1 = room o2 1 := rfl
  rw [e2]
  split
  · rfl
  split
  · rfl
  · rfl
theorem allot_lifts : Lifts allot := by
  intro y l o
  unfold allot
  rw [pop_put]
  generalize pop o = r
  obtain ⟨v, c, o2⟩ := r
  dsimp only
  have e2 : (put y l o2).here = o2.here := rfl
  have e3 : (put y l o2).m.mem = o2.m.mem := rfl
  rw [e2, e3]
  split
  · rfl
  split
  · rfl
  · rfl
theorem compX_lifts (u : List UInt8) : Lifts (compX · u) := by
  intro y l o
  dsimp only
  unfold compX
  split
  · exact finish_lifts y l o
  split
  · exact opW_lifts _ y l o
  split
  · exact opW_lifts _ y l o
  split
  · exact opW_lifts _ y l o
  split
  · exact opW_lifts _ y l o
  split
  · exact recurse_lifts y l o
  split
  · exact litPop_lifts y l o
  · exact wv_lifts _ y l o
theorem defX_lifts (u : List UInt8) (n : ByteArray) : Lifts (defX · u n) := by
  intro y l o
  dsimp only
  unfold defX
  split
  · rw [pop_put]
    generalize pop o = r
    obtain ⟨v, c, o2⟩ := r
    dsimp only
    split
    · rfl
    · exact define_lifts n _ y l o2
  split
  · exact define_lifts n _ y l o
  split
  · exact define_lifts n _ y l o
  · rfl
structure OT where
  o : OS
  t : MT
  line : Option (List Tk)
def OT.os (x : OT) : OS := { x.o with m := x.t.s, line := none }
def OT.outB (x : OT) : ByteArray := ⟨x.t.out.flatten.toArray⟩
def OT.real (x : OT) : OS := put x.outB (x.line.map flat) x.os
def back (x : OT) (o : OS) : OT := { x with o := o, t := putS x.t o.m }
def liftO (f : OS → R) (x : OT) : Int × OT := ((f x.os).1, back x (f x.os).2)
theorem lift_real {f : OS → R} (h : Lifts f) (x : OT) : f x.real = ((liftO f x).1, (liftO f x).2.real) := h _ _ _
def tokOk (x : OT) : Prop := ∀ l, x.line = some l → ∀ t ∈ l, t.Ok
structure OOk (x : OT) : Prop where
  wo : Wo x.real
  tok : tokOk x
  len : x.t.out.flatten.length ≤ x.t.cnt
  cnt : x.t.cnt ≤ 2000
structure Side (x x' : OT) : Prop where
  log : x'.t.log = x.t.log
  tok : tokOk x'
  len : x'.t.out.flatten.length ≤ x'.t.cnt
  cnt : x'.t.cnt ≤ 2000
theorem Side.refl {x : OT} (h : OOk x) : Side x x := ⟨rfl, h.tok, h.len, h.cnt⟩
theorem Side.trans {a b c : OT} (h : Side a b) (k : Side b c) : Side a c := ⟨k.log.trans h.log, k.tok, k.len, k.cnt⟩
theorem Side.ok {x x' : OT} (h : Side x x') (W : Wo x'.real) : OOk x' := ⟨W, h.tok, h.len, h.cnt⟩
theorem Side.after {x x' : OT} (h : Side x x') : After x.t x'.t := ⟨[], h.log⟩
theorem side_lift {x : OT} (h : OOk x) (f : OS → R) : Side x (liftO f x).2 := ⟨rfl, h.tok, h.len, h.cnt⟩
def lastO (o : OS) (w : List UInt8) : OS := { o with last := ⟨w.toArray⟩ }
def readT (x : OT) : Option (Option Wt × OT) :=
  match x.line with
  | none => none
  | some l =>
    match nextT l with
    | none => none
    | some (none, r) => some (none, { x with line := some r })
    | some (some w, r) => some (some w, { x with line := some r, o := lastO x.o w.bytes })
theorem readT_none {x x' : OT} (h : readT x = some (none, x')) (ok : OOk x) : read x.real = (ByteArray.empty, false, x'.real) ∧ Side x x' := by
  unfold readT at h
  cases hl : x.line with
  | none => rw [hl] at h; cases h
  | some l =>
    rw [hl] at h
    dsimp only at h
    split at h
    · cases h
    · rename_i r hn
      injection h with h
      injection h with _ h
      subst h
      obtain ⟨h1, rfl⟩ := nextT_none l (ok.tok l hl) r hn
      refine ⟨?_, rfl, fun l' e t ht => ?_, ok.len, ok.cnt⟩
      · have e : x.real.line = some (flat l) := by show x.line.map flat = _; rw [hl]; rfl
        unfold read
        rw [e]
        dsimp only
        rw [h1]
        rfl
      · injection e with e; subst e; cases ht
    · injection h with h; injection h with h; cases h
theorem readT_some {x x' : OT} {w : Wt} (h : readT x = some (some w, x')) (ok : OOk x) : read x.real = (⟨w.bytes.toArray⟩, true, x'.real) ∧ Side x x' := by
  unfold readT at h
  cases hl : x.line with
  | none => rw [hl] at h; cases h
  | some l =>
    rw [hl] at h
    dsimp only at h
    split at h
    · cases h
    · injection h with h; injection h with h; cases h
    · rename_i w2 r hn
      injection h with h
      injection h with h1 h
      injection h1 with h1
      subst h h1
      obtain ⟨h1, h2, h3, h4⟩ := nextT_some l (ok.tok l hl) w2 r hn
      refine ⟨?_, rfl, fun l' e => ?_, ok.len, ok.cnt⟩
      · have e : x.real.line = some (flat l) := by show x.line.map flat = _; rw [hl]; rfl
        unfold read
        rw [e]
        dsimp only
        rw [h1, h2, h3]
        rfl
      · injection e with e; subst e; exact h4
def untilX (x : OT) (c : UInt8) : Option (List UInt8 × OT) :=
  match x.line with
  | none => none
  | some l => (untilT c l).map fun q => (q.1, { x with line := some q.2 })
theorem untilX_fits {x x' : OT} {c : UInt8} {p : List UInt8} (h : untilX x c = some (p, x')) (ok : OOk x) : untilB x.real c = (⟨p.toArray⟩, x'.real) ∧ Side x x' := by
  unfold untilX at h
  cases hl : x.line with
  | none => rw [hl] at h; cases h
  | some l =>
    rw [hl] at h
    dsimp only at h
    cases hu : untilT c l with
    | none => rw [hu] at h; cases h
    | some q =>
      rw [hu] at h
      injection h with h
      injection h with h1 h2
      subst h1 h2
      obtain ⟨h1, h2, h3⟩ := untilT_flat c l q hu
      refine ⟨?_, rfl, fun l' e t ht => ?_, ok.len, ok.cnt⟩
      · have e : x.real.line = some (flat l) := by show x.line.map flat = _; rw [hl]; rfl
        unfold untilB
        rw [e]
        dsimp only
        rw [h1, h2]
        rfl
      · injection e with e; subst e; exact ok.tok l hl t (h3 t ht)
end Go.Proofs.YtompdfpjmdnhoabGreatDoor.Ou
namespace Go.Proofs.YtompdfpjmdnhoabGreatDoor.Ou
open Go.RowKit Go.Proofs.YtompdfpjmdnhoabGreatDoor.Mc Go.Proofs.YtompdfpjmdnhoabGreatDoor.Src
abbrev RO := Option (Int × OT)
def Fit (x : OT) (r : RO) (R : R) : Prop := ∀ q, r = some q → R = (q.1, q.2.real) ∧ Side x q.2
theorem fit_none {x : OT} {R : R} : Fit x none R := fun q h => by cases h
theorem fit_some {x y : OT} {c : Int} {R : R} (h : R = (c, y.real)) (k : Side x y) : Fit x (some (c, y)) R := fun q e => by injection e with e; subst e; exact ⟨h, k⟩
theorem fit_lift {x : OT} {f : OS → R} (h : Lifts f) (ok : OOk x) : Fit x (some (liftO f x)) (f x.real) := fun q e => by
  injection e with e; subst e; exact ⟨lift_real h x, side_lift ok f⟩
theorem Fit.from {x x' : OT} {r : RO} {R : R} (h : Fit x' r R) (k : Side x x') : Fit x r R := fun q e => ⟨(h q e).1, k.trans (h q e).2⟩
def nameT (x : OT) : Option (ByteArray × Int × OT) :=
  match readT x with
  | none => none
  | some (none, x') => some (ByteArray.empty, -16, x')
  | some (some (.lit l), x') => if rightN ⟨l.toArray⟩ = false then some (ByteArray.empty, -16, x') else some (⟨l.toArray⟩, 0, x')
  | some (some _, _) => none
theorem name_fits {x : OT} {q : ByteArray × Int × OT} (h : nameT x = some q) (ok : OOk x) : name x.real = (q.1, q.2.1, q.2.2.real) ∧ Side x q.2.2 := by
  unfold nameT at h
  split at h
  · cases h
  · rename_i x' hr
    injection h with h; subst h
    obtain ⟨h1, h2⟩ := readT_none hr ok
    refine ⟨?_, h2⟩
    unfold name
    rw [h1]
    rfl
  · rename_i l x' hr
    obtain ⟨h1, h2⟩ := readT_some hr ok
    split at h
    · rename_i hn
      injection h with h; subst h
      refine ⟨?_, h2⟩
      unfold name
      rw [h1]
      exact if_pos (.inr hn)
    · rename_i hn
      injection h with h; subst h
      refine ⟨?_, h2⟩
      unfold name
      rw [h1]
      exact if_neg (fun h => h.elim (fun h => by cases h) hn)
  · cases h
def findT (x : OT) : Option (Wd × Int × OT) :=
  match nameT x with
  | none => none
  | some r => some (if r.2.1 ≠ 0 then (wd0, r.2.1, r.2.2) else match find r.2.2.o.words r.1 with | some w => (w, 0, r.2.2) | none => (wd0, -13, r.2.2))
theorem find_fits {x : OT} {q : Wd × Int × OT} (h : findT x = some q) (ok : OOk x) : findO x.real = (q.1, q.2.1, q.2.2.real) ∧ Side x q.2.2 := by
  unfold findT at h
  cases hn : nameT x with
  | none => rw [hn] at h; cases h
  | some r =>
    rw [hn] at h
    dsimp only at h
    obtain ⟨h1, h2⟩ := name_fits hn ok
    injection h with h
    unfold findO
    rw [h1]
    dsimp only
    have e : r.2.2.real.words = r.2.2.o.words := rfl
    rw [e]
    split at h
    · rename_i h0
      subst h
      rw [if_pos h0]
      exact ⟨rfl, h2⟩
    · rename_i h0
      rw [if_neg h0]
      split at h
      · rename_i w hw
        subst h
        rw [hw]
        exact ⟨rfl, h2⟩
      · rename_i hw
        subst h
        rw [hw]
        exact ⟨rfl, h2⟩
def setT (x : OT) (t : MT) : OT := { x with t := t }
def sayT (x : OT) (t : List UInt8) : RO :=
  if x.o.draft.isSome = false then (if x.t.cnt + t.length ≤ 2000 then some (0, { x with t := { x.t with out := x.t.out ++ [t], cnt := x.t.cnt + t.length } }) else none)
  else some (liftO (sayW · t) x)
theorem say_fits (x : OT) (t : List UInt8) (ok : OOk x) : Fit x (sayT x t) (say x.real ⟨t.toArray⟩) := by
  unfold sayT say
  have e : x.real.draft = x.o.draft := rfl
  rw [e]
  by_cases hd : x.o.draft.isSome = false
  · rw [if_pos hd, if_pos hd]
    by_cases hc : x.t.cnt + t.length ≤ 2000
    · rw [if_pos hc]
      have hf : (x.t.out ++ [t]).flatten = x.t.out.flatten ++ t := by simp
      have h1 : x.real.m.out.size = x.t.out.flatten.length := by show (ByteArray.mk x.t.out.flatten.toArray).size = _; simp [ByteArray.size]
      have h2 : (ByteArray.mk t.toArray).size = t.length := by simp [ByteArray.size]
      rw [h1, h2, if_neg (by have := ok.len; omega)]
      refine fit_some ?_ ⟨rfl, ok.tok, ?_, hc⟩
      · congr 1
        have e3 : x.real.m.out ++ (ByteArray.mk t.toArray) = ⟨(x.t.out ++ [t]).flatten.toArray⟩ := by
          show (ByteArray.mk x.t.out.flatten.toArray) ++ (ByteArray.mk t.toArray) = _
          rw [hf]
          apply ByteArray.ext
          rw [ByteArray.data_append]
          simp
        show ({ x.real with m := { x.real.m with out := x.real.m.out ++ (ByteArray.mk t.toArray) } } : OS) = _
        rw [e3]
        rfl
      · show (x.t.out ++ [t]).flatten.length ≤ x.t.cnt + t.length
        rw [hf, List.length_append]
        have := ok.len
        omega
    · rw [if_neg hc]; exact fit_none
  · rw [if_neg hd, if_neg hd]
    exact fit_lift (sayW_lifts t) ok
def noLine (x : OT) (l : Option (List Tk)) : OT := { x with line := l }
def baseT (x : OT) (b : Int) : OT := { x with o := { x.o with base := b } }
def alwaysT (x : OT) (u : List UInt8) : RO :=
  if u = oParen then (untilX x 41).map fun q => (0, q.2)
  else if u = oBack then (match x.line with | none => none | some _ => some (0, noLine x (some [])))
  else if u = oSay then (match untilX x 34 with | none => none | some q => sayT q.2 q.1)
  else if u = oChar then
    (match readT x with
    | none => none
    | some (none, x') => some (-16, x')
    | some (some (.lit l), x') => some (liftO (literal · ((l.getD 0 0).toNat : Int)) x')
    | some (some _, _) => none)
  else if u = oHex then some (0, baseT x 16) else some (0, baseT x 10)
theorem always_fits (x : OT) (u : List UInt8) (ok : OOk x) : Fit x (alwaysT x u) (always x.real u) := by
  unfold alwaysT always
  by_cases h1 : u = oParen
  · rw [if_pos h1, if_pos h1]
    cases hu : untilX x 41 with
    | none => exact fit_none
    | some q =>
      obtain ⟨k1, k2⟩ := untilX_fits (p := q.1) (x' := q.2) hu ok
      rw [k1]
      exact fit_some rfl k2
  rw [if_neg h1, if_neg h1]
  by_cases h2 : u = oBack
  · rw [if_pos h2, if_pos h2]
    cases hl : x.line with
    | none => exact fit_none
    | some l =>
      refine fit_some ?_ ⟨rfl, fun l' e t ht => (by injection e with e; subst e; cases ht), ok.len, ok.cnt⟩
      unfold skipL
      have e : x.real.line = some (flat l) := by show x.line.map flat = _; rw [hl]; rfl
      rw [e]
      rfl
  rw [if_neg h2, if_neg h2]
  by_cases h3 : u = oSay
  · rw [if_pos h3, if_pos h3]
    cases hu : untilX x 34 with
    | none => exact fit_none
    | some q =>
      obtain ⟨k1, k2⟩ := untilX_fits (p := q.1) (x' := q.2) hu ok
      rw [k1]
      have W : Wo q.2.real := by have := (until_kept x.real 34 ok.wo).1.kept.wo; rw [k1] at this; exact this
      exact (say_fits q.2 q.1 (k2.ok W)).from k2
  rw [if_neg h3, if_neg h3]
  by_cases h4 : u = oChar
  · rw [if_pos h4, if_pos h4]
    split
    · exact fit_none
    · rename_i x' hr
      obtain ⟨k1, k2⟩ := readT_none hr ok
      rw [k1]
      exact fit_some rfl k2
    · rename_i l x' hr
      obtain ⟨k1, k2⟩ := readT_some hr ok
      have W : Wo x'.real := by have := (read_kept x.real ok.wo).1.kept.wo; rw [k1] at this; exact this
      rw [k1]
      exact (fit_lift (literal_lifts _) (k2.ok W)).from k2
    · exact fit_none
  rw [if_neg h4, if_neg h4]
  by_cases h5 : u = oHex
  · rw [if_pos h5, if_pos h5]
    exact fit_some rfl ⟨rfl, ok.tok, ok.len, ok.cnt⟩
  · rw [if_neg h5, if_neg h5]
    exact fit_some rfl ⟨rfl, ok.tok, ok.len, ok.cnt⟩
def afterFind (x : OT) (f : Wd → OS → R) : RO :=
  match findT x with
  | none => none
  | some r => if r.2.1 ≠ 0 then some (r.2.1, r.2.2) else some (liftO (f r.1) r.2.2)
theorem find_then {x : OT} {f : Wd → OS → R} (hf : ∀ w, Lifts (f w)) (ok : OOk x) : Fit x (afterFind x f) (if (findO x.real).2.1 ≠ 0 then ((findO x.real).2.1, (findO x.real).2.2) else f (findO x.real).1 (findO x.real).2.2) := by
  unfold afterFind
  cases hr : findT x with
  | none => exact fit_none
  | some r =>
    obtain ⟨k1, k2⟩ := find_fits hr ok
    have W : Wo r.2.2.real := by have := (findO_kept x.real ok.wo).1.kept.wo; rw [k1] at this; exact this
    rw [k1]
    dsimp only
    by_cases h0 : r.2.1 ≠ 0
    · rw [if_pos h0, if_pos h0]; exact fit_some rfl k2
    · rw [if_neg h0, if_neg h0]; exact (fit_lift (hf _) (k2.ok W)).from k2
def compileT (x : OT) (u : List UInt8) : RO := if u = oBtick then afterFind x (fun w o => lit o w.xt) else some (liftO (compX · u) x)
theorem compile_fits (x : OT) (u : List UInt8) (ok : OOk x) : Fit x (compileT x u) (compile x.real u) := by
  unfold compileT compile
  split
  · exact find_then (f := fun w o => lit o w.xt) (fun w => lit_lifts _) ok
  · exact fit_lift (compX_lifts u) ok
def definingT (x : OT) (u : List UInt8) : RO :=
  if u = oComma then some (liftO comma x) else if u = oAllot then some (liftO allot x) else if u = oHere then some (liftO (push · x.o.here) x)
  else if u = oTick then afterFind x (fun w o => push o w.xt)
  else if u = oImmediate then some (liftO immediate x)
  else if u = oForget then afterFind x (fun w o => forgetX o w)
  else match nameT x with
    | none => none
    | some r => if r.2.1 ≠ 0 then some (r.2.1, r.2.2) else some (liftO (defX · u r.1) r.2.2)
theorem defining_fits (x : OT) (u : List UInt8) (ok : OOk x) : Fit x (definingT x u) (defining x.real u) := by
  unfold definingT defining
  split
  · exact fit_lift comma_lifts ok
  split
  · exact fit_lift allot_lifts ok
  split
  · exact fit_lift (push_lifts x.o.here) ok
  split
  · exact find_then (f := fun w o => push o w.xt) (fun w => push_lifts _) ok
  split
  · exact fit_lift immediate_lifts ok
  split
  · exact find_then (f := fun w o => forgetX o w) (fun w => forgetX_lifts _) ok
  · cases hr : nameT x with
    | none => exact fit_none
    | some r =>
      obtain ⟨k1, k2⟩ := name_fits hr ok
      have W : Wo r.2.2.real := by have := (name_kept x.real ok.wo).1.kept.wo; rw [k1] at this; exact this
      rw [k1]
      dsimp only
      by_cases h0 : r.2.1 ≠ 0
      · rw [if_pos h0, if_pos h0]; exact fit_some rfl k2
      · rw [if_neg h0, if_neg h0]; exact (fit_lift (defX_lifts u r.1) (k2.ok W)).from k2
def ownT (x : OT) (u : List UInt8) (k : Nat) : RO :=
  if k = 3 then alwaysT x u else if (k = 2) ≠ (x.o.draft.isSome = true) then some (-14, x) else if k = 2 then compileT x u else definingT x u
theorem own_fits (x : OT) (u : List UInt8) (k : Nat) (ok : OOk x) : Fit x (ownT x u k) (own x.real u k) := by
  unfold ownT own
  have e : x.real.draft = x.o.draft := rfl
  rw [e]
  split
  · exact always_fits x u ok
  split
  · exact fit_some rfl (Side.refl ok)
  split
  · exact compile_fits x u ok
  · exact defining_fits x u ok
def wordT (x : OT) (w : Wt) : RO :=
  match w with
  | .n v b => if decide (b = x.o.base) && noNum b x.o.words then some (liftO (literal · v) x) else none
  | .d v => if noDol x.o.words then some (liftO (literal · v) x) else none
  | .lit l =>
    match find x.o.words ⟨l.toArray⟩ with
    | some wd => some (liftO (found · wd) x)
    | none =>
      if ownC (l.map Wv.up) ≠ 0 then ownT x (l.map Wv.up) (ownC (l.map Wv.up))
      else if (Dg.getV l x.o.base).2 = false then some (-13, x) else some (liftO (literal · (Dg.getV l x.o.base).1) x)
def wtOk : Wt → Prop
  | .lit _ => True
  | .n v _ => In v
  | .d v => In v
theorem word_fits (x : OT) (w : Wt) (ok : OOk x) (hw : wtOk w) : Fit x (wordT x w) (word x.real ⟨w.bytes.toArray⟩) := by
  have ew : x.real.words = x.o.words := rfl
  have eb : x.real.base = x.o.base := rfl
  unfold wordT
  cases w with
  | n v b =>
    dsimp only
    by_cases hc : (decide (b = x.o.base) && noNum b x.o.words) = true
    · rw [if_pos hc]
      rw [Bool.and_eq_true, decide_eq_true_eq] at hc
      obtain ⟨hb, hn⟩ := hc
      have hbb : b = 10 ∨ b = 16 := by rw [hb, ← eb]; exact ok.wo.base
      have h2 : 2 ≤ b ∧ b ≤ 36 := by omega
      unfold word
      rw [ew, eb]
      have e1 : find x.o.words ⟨(Wt.bytes (.n v b)).toArray⟩ = none := find_num x.o.words v b h2 hn
      rw [e1]
      dsimp only
      have e2 : ownC (ups ⟨(Wt.bytes (.n v b)).toArray⟩) = 0 := own_num v b (by omega)
      rw [if_neg (by rw [e2]; simp)]
      have e3 : Dg.getV (ByteArray.mk (Wt.bytes (.n v b)).toArray).data.toList x.o.base = (v, true) := by
        show Dg.getV (Dg.putV v b).toArray.toList _ = _
        rw [List.toList_toArray, ← hb]
        exact Dg.get_put v b h2.1 h2.2 hw.1 hw.2
      rw [e3]
      exact fit_lift (literal_lifts v) ok
    · rw [if_neg hc]; exact fit_none
  | d v =>
    dsimp only
    by_cases hc : noDol x.o.words = true
    · rw [if_pos hc]
      unfold word
      rw [ew, eb]
      have e1 : find x.o.words ⟨(Wt.bytes (.d v)).toArray⟩ = none := find_dol x.o.words v hc
      rw [e1]
      dsimp only
      have e2 : ownC (ups ⟨(Wt.bytes (.d v)).toArray⟩) = 0 := own_dol v
      rw [if_neg (by rw [e2]; simp)]
      have e3 : Dg.getV (ByteArray.mk (Wt.bytes (.d v)).toArray).data.toList x.o.base = (v, true) := by
        show Dg.getV (36 :: Dg.putV v 16).toArray.toList _ = _
        rw [List.toList_toArray]
        have hbs : x.o.base = 10 ∨ x.o.base = 16 := ok.wo.base
        exact Dg.get_sign v x.o.base 16 36 (by omega) (by omega) (.inl ⟨rfl, rfl⟩) hw.1 hw.2
      rw [e3]
      exact fit_lift (literal_lifts v) ok
    · rw [if_neg hc]; exact fit_none
  | lit l =>
    dsimp only
    unfold word
    have hb : Wt.bytes (.lit l) = l := rfl
    rw [ew, eb, hb]
    cases find x.o.words ⟨l.toArray⟩ with
    | some wd => exact fit_lift (found_lifts wd) ok
    | none =>
      dsimp only
      have hu : ups ⟨l.toArray⟩ = l.map Wv.up := by show l.toArray.toList.map Wv.up = _; rw [List.toList_toArray]
      have hl : (ByteArray.mk l.toArray).data.toList = l := by show l.toArray.toList = _; rw [List.toList_toArray]
      rw [hu]
      split
      · exact own_fits x _ _ ok
      split
      · exact fit_some rfl (Side.refl ok)
      · exact fit_lift (literal_lifts _) ok
end Go.Proofs.YtompdfpjmdnhoabGreatDoor.Ou
namespace Go.Proofs.YtompdfpjmdnhoabGreatDoor.Ou
open Go.RowKit Go.Proofs.YtompdfpjmdnhoabGreatDoor.Mc Go.Proofs.YtompdfpjmdnhoabGreatDoor.Src
def faultT (x : OT) : OT := noLine (back x (fault x.os)) none
def runsT (x : OT) (b : Bool) : OT := { x with o := { x.o with runs := b } }
def goT : Nat → OT → Option (Int × Bool × OT)
  | 0, _ => none
  | n + 1, x =>
    match readT x with
    | none => none
    | some (none, x') => some (0, false, noLine x' none)
    | some (some w, x') =>
      match wordT x' w with
      | none => none
      | some q => if q.1 ≠ 0 then some (q.1, false, faultT q.2) else if q.2.o.runs = true then some (0, true, q.2) else goT n q.2
theorem wt_ok {x x' : OT} {w : Wt} (h : readT x = some (some w, x')) (ok : OOk x) : wtOk w := by
  unfold readT at h
  cases hl : x.line with
  | none => rw [hl] at h; cases h
  | some l =>
    have hk := ok.tok l hl
    rw [hl] at h
    dsimp only at h
    split at h
    · cases h
    · injection h with h; injection h with h; cases h
    · rename_i w2 r hn
      injection h with h
      injection h with h1 h
      injection h1 with h1
      subst h h1
      have ok2 : ∀ t ∈ l.dropWhile blankT, t.Ok := fun t ht => hk t ((List.dropWhile_sublist _).subset ht)
      unfold nextT at hn
      split at hn
      · cases hn
      · rename_i v b q hq
        rw [hq] at ok2
        have k := ok2 _ (List.mem_cons_self ..)
        split at hn
        · injection hn with hn; injection hn with h1 _; injection h1 with h1; subst h1; exact k.1
        · cases hn
      · rename_i v q hq
        rw [hq] at ok2
        have k := ok2 _ (List.mem_cons_self ..)
        split at hn
        · injection hn with hn; injection hn with h1 _; injection h1 with h1; subst h1; exact k
        · cases hn
      · rename_i b q hq
        cases ht : takeC (.c b :: q) with
        | none => rw [ht] at hn; cases hn
        | some p => rw [ht] at hn; injection hn with hn; injection hn with h1 _; injection h1 with h1; subst h1; trivial
theorem side_fault {x : OT} (h : OOk x) : Side x (faultT x) := ⟨rfl, (fun l e => by cases e), h.len, h.cnt⟩
theorem side_noLine {x : OT} (h : OOk x) : Side x (noLine x none) := ⟨rfl, (fun l e => by cases e), h.len, h.cnt⟩
theorem goT_fits : ∀ (n : Nat) (x : OT) (q : Int × Bool × OT), goT n x = some q → OOk x → ∀ m, n ≤ m → goW m x.real = (q.1, q.2.1, q.2.2.real) ∧ Side x q.2.2
  | 0, x, q, h, ok, m, hm => by cases h
  | n + 1, x, q, h, ok, 0, hm => by omega
  | n + 1, x, q, h, ok, m + 1, hm => by
    unfold goT at h
    unfold goW
    dsimp only
    split at h
    · cases h
    · rename_i x' hr
      injection h with h; subst h
      obtain ⟨k1, k2⟩ := readT_none hr ok
      have W : Wo x'.real := by have := (read_kept x.real ok.wo).1.kept.wo; rw [k1] at this; exact this
      rw [k1]
      exact ⟨rfl, k2.trans (side_noLine (k2.ok W))⟩
    · rename_i w x' hr
      obtain ⟨k1, k2⟩ := readT_some hr ok
      have hw := wt_ok hr ok
      have W : Wo x'.real := by have := (read_kept x.real ok.wo).1.kept.wo; rw [k1] at this; exact this
      have ok' := k2.ok W
      rw [k1]
      dsimp only
      rw [if_neg (by simp)]
      cases hq : wordT x' w with
      | none => rw [hq] at h; cases h
      | some r =>
        rw [hq] at h
        dsimp only at h
        obtain ⟨f1, f2⟩ := word_fits x' w ok' hw r hq
        have W2 : Wo r.2.real := by have := (word_kept x'.real ⟨w.bytes.toArray⟩ W).wo; rw [f1] at this; exact this
        have ok2 := f2.ok W2
        rw [f1]
        dsimp only
        by_cases h0 : r.1 ≠ 0
        · rw [if_pos h0] at h ⊢
          injection h with h; subst h
          exact ⟨rfl, (k2.trans f2).trans (side_fault ok2)⟩
        · rw [if_neg h0] at h ⊢
          have er : r.2.real.runs = r.2.o.runs := rfl
          rw [er]
          by_cases hru : r.2.o.runs = true
          · rw [if_pos hru] at h ⊢
            injection h with h; subst h
            exact ⟨rfl, k2.trans f2⟩
          · rw [if_neg hru] at h ⊢
            obtain ⟨g1, g2⟩ := goT_fits n r.2 q h ok2 m (by omega)
            exact ⟨g1, (k2.trans f2).trans g2⟩
def goX (x : OT) : Option (Int × Bool × OT) :=
  match x.line with
  | none => none
  | some l =>
    if x.o.runs = true then
      (if x.t.s.status = 2 then some (x.t.s.code, false, faultT x) else if x.t.s.status = 0 then some (0, true, x) else goT (l.length + 1) (runsT x false))
    else goT (l.length + 1) x
theorem bytes_pos (t : Tk) (h : t.Ok) : 1 ≤ t.bytes.length := by
  cases t with
  | c b => exact Nat.le_refl _
  | n v b => exact List.length_pos_iff.2 (putV_ne v b h.2)
  | d v => show 1 ≤ (36 :: Dg.putV v 16).length; simp
theorem flat_len (l : List Tk) (h : ∀ t ∈ l, t.Ok) : l.length ≤ (flat l).length := by
  induction l with
  | nil => exact Nat.le_refl _
  | cons t r ih =>
    have h1 := ih fun t ht => h t (List.mem_cons_of_mem _ ht)
    have h2 := bytes_pos t (h t (List.mem_cons_self ..))
    have e : flat (t :: r) = t.bytes ++ flat r := rfl
    rw [e, List.length_append, List.length_cons]
    omega
theorem goX_fits {x : OT} {q : Int × Bool × OT} (h : goX x = some q) (ok : OOk x) : go x.real = (q.1, q.2.1, q.2.2.real) ∧ Side x q.2.2 := by
  unfold goX at h
  cases hl : x.line with
  | none => rw [hl] at h; cases h
  | some l =>
    rw [hl] at h
    dsimp only at h
    have e : x.real.line = some (flat l) := by show x.line.map flat = _; rw [hl]; rfl
    have hlen := flat_len l (ok.tok l hl)
    have hfu : fuelW x.real = (flat l).length + 1 := by unfold fuelW; rw [e]
    unfold go
    rw [if_neg (by rw [e]; simp)]
    have er : x.real.runs = x.o.runs := rfl
    have es : x.real.m.status = x.t.s.status := rfl
    rw [er, es]
    by_cases hr : x.o.runs = true
    · rw [if_pos hr] at h ⊢
      by_cases h2 : x.t.s.status = 2
      · rw [if_pos h2] at h ⊢
        injection h with h; subst h
        exact ⟨rfl, side_fault ok⟩
      rw [if_neg h2] at h ⊢
      by_cases h0 : x.t.s.status = 0
      · rw [if_pos h0] at h ⊢
        injection h with h; subst h
        exact ⟨rfl, Side.refl ok⟩
      · rw [if_neg h0] at h ⊢
        have ok' : OOk (runsT x false) := ⟨ok.wo.runs' false, ok.tok, ok.len, ok.cnt⟩
        rw [hfu]
        obtain ⟨g1, g2⟩ := goT_fits _ (runsT x false) q h ok' ((flat l).length + 1) (by omega)
        exact ⟨g1, ⟨g2.log, g2.tok, g2.len, g2.cnt⟩⟩
    · rw [if_neg hr] at h ⊢
      rw [hfu]
      exact goT_fits _ x q h ok ((flat l).length + 1) (by omega)
def keepL (x y : OT) : OT := { y with t := { y.t with log := x.t.log } }
def lineT : Nat → Nat → OT → Option (Int × Nat × OT)
  | 0, _, _ => none
  | n + 1, f, x =>
    match goX x with
    | none => none
    | some r =>
      if r.2.1 = false ∨ f = 0 then some (r.1, f, keepL x r.2.2)
      else match Mc.runT f (keepL x r.2.2).t with
        | none => none
        | some q => lineT n q.2 (setT (keepL x r.2.2) q.1)
theorem run_after : ∀ (n : Nat) (t : MT) (q : MT × Nat), Mc.runT n t = some q → After t q.1 := by
  intro n
  induction n with
  | zero => intro t q h; injection h with h; subst h; exact After.refl _
  | succ n ih =>
    intro t q h
    unfold Mc.runT at h
    split at h
    · cases hb : advanceT t with
      | none => rw [hb] at h; cases h
      | some t2 =>
        rw [hb] at h
        exact After.trans (advance_after hb) (ih t2 q h)
    · injection h with h; subst h; exact After.refl _
theorem lineT_after : ∀ (n f : Nat) (x : OT) (q : Int × Nat × OT), lineT n f x = some q → After x.t q.2.2.t := by
  intro n
  induction n with
  | zero => intro f x q h; cases h
  | succ n ih =>
    intro f x q h
    unfold lineT at h
    cases hg : goX x with
    | none => rw [hg] at h; cases h
    | some r =>
      rw [hg] at h
      dsimp only at h
      have h0 : After x.t (keepL x r.2.2).t := ⟨[], rfl⟩
      split at h
      · injection h with h; subst h; exact h0
      · cases hr : Mc.runT f (keepL x r.2.2).t with
        | none => rw [hr] at h; cases h
        | some p =>
          rw [hr] at h
          exact h0.trans ((run_after _ _ _ hr).trans (ih _ _ _ h))
def Ends : Nat → Nat → OS → Int × Nat × OS → Prop
  | 0, _, _, _ => False
  | n + 1, f, o, r => (((go o).2.1 = false ∨ f = 0) ∧ r = ((go o).1, f, (go o).2.2)) ∨ (¬ ((go o).2.1 = false ∨ f = 0) ∧ Ends n (Mc.run f (go o).2.2.m).2 { (go o).2.2 with m := (Mc.run f (go o).2.2.m).1 } r)
theorem lineT_fits : ∀ (n f : Nat) (x : OT) (q : Int × Nat × OT), lineT n f x = some q → OOk x → Valid q.2.2.t.log → Ends n f x.real (q.1, q.2.1, q.2.2.real) ∧ OOk q.2.2
  | 0, f, x, q, h, ok, v => by cases h
  | n + 1, f, x, q, h, ok, v => by
    unfold lineT at h
    cases hg : goX x with
    | none => rw [hg] at h; cases h
    | some r =>
      rw [hg] at h
      dsimp only at h
      obtain ⟨g1, g2⟩ := goX_fits hg ok
      have W : Wo r.2.2.real := by have := (go_wo x.real ok.wo).1; rw [g1] at this; exact this
      have ok1 : OOk (keepL x r.2.2) := ⟨W, g2.tok, g2.len, g2.cnt⟩
      have e1 : r.2.2.real = (keepL x r.2.2).real := rfl
      by_cases hs : r.2.1 = false ∨ f = 0
      · rw [if_pos hs] at h
        injection h with h; subst h
        exact ⟨.inl ⟨by rw [g1]; exact hs, by rw [g1]; rfl⟩, ok1⟩
      · rw [if_neg hs] at h
        rw [e1] at g1
        generalize keepL x r.2.2 = y at *
        cases hr : Mc.runT f y.t with
        | none => rw [hr] at h; cases h
        | some p =>
          rw [hr] at h
          dsimp only at h
          have mok : y.t.Ok := ⟨ok1.wo.m, ok1.len, ok1.cnt⟩
          have v1 : Valid p.1.log := (lineT_after _ _ _ _ h).valid v
          obtain ⟨_, pok, pe⟩ := run_fits f y.t p hr mok v1
          have em : y.real.m = y.t.real := rfl
          have ok2 : OOk (setT y p.1) := by
            refine ⟨?_, ok1.tok, pok.2.1, pok.2.2⟩
            have := run_wo f y.real ok1.wo
            rw [em, pe] at this
            exact this
          obtain ⟨i1, i2⟩ := lineT_fits n p.2 (setT y p.1) q h ok2 v
          refine ⟨.inr ⟨by rw [g1]; exact hs, ?_⟩, i2⟩
          rw [g1]
          dsimp only
          rw [em, pe]
          exact i1
end Go.Proofs.YtompdfpjmdnhoabGreatDoor.Ou
