/-
  Lemmas on the way, for every input that they name: OuZ, OvA.
-/
import Derived.Test.YtompdfpjmdnhoabGreatDoorQ09
import Derived.Test.YtompdfpjmdnhoabGreatDoorQ10
import Derived.Test.YtompdfpjmdnhoabGreatDoorQ11
set_option linter.unusedVariables false
set_option linter.unusedSimpArgs false
set_option linter.deprecated false
namespace Go.Proofs.YtompdfpjmdnhoabGreatDoor.Ou
open Go.RowKit Go.Proofs.YtompdfpjmdnhoabGreatDoor.Mc Go.Proofs.YtompdfpjmdnhoabGreatDoor.Src
def Lines : List ByteArray → Int → OS → Int × OS → Prop
  | [], c, o, r => r = (c, o)
  | t :: ts, _, o, r => t.size ≤ 600 ∧ ∃ n q, Ends n 3000 (begin_ o t) q ∧ q.2.2.line = none ∧ Lines ts q.1 q.2.2 r
def startT (x : OT) (l : List Tk) (b : List (Option Bool)) : OT := { o := { x.o with last := ByteArray.empty }, t := { x.t with bs := b }, line := some l }
def linesT : List (List Tk × List (Option Bool)) → Int → OT → Option (Int × OT)
  | [], c, x => some (c, x)
  | p :: r, _, x =>
    match lineT 60 3000 (startT x p.1 p.2) with
    | none => none
    | some q => if q.2.2.line.isNone = true then linesT r q.1 q.2.2 else none
theorem startT_real (x : OT) (l : List Tk) (b : List (Option Bool)) : (startT x l b).real = begin_ x.real ⟨(flat l).toArray⟩ := rfl
theorem startT_ok {x : OT} (ok : OOk x) (l : List Tk) (b : List (Option Bool)) (hl : ∀ t ∈ l, t.Ok) (hs : (flat l).length ≤ 600) : OOk (startT x l b) := by
  refine ⟨?_, fun l' e => ?_, ok.len, ok.cnt⟩
  · rw [startT_real]
    exact (ok.wo.line' (some (flat l)) fun y e => by injection e with e; subst e; exact hs).last' _
  · injection e with e; subst e; exact hl
theorem linesT_after : ∀ (ls : List (List Tk × List (Option Bool))) (c : Int) (x : OT) (q : Int × OT), linesT ls c x = some q → After x.t q.2.t
  | [], c, x, q, h => by injection h with h; subst h; exact After.refl _
  | p :: r, c, x, q, h => by
    unfold linesT at h
    cases hq : lineT 60 3000 (startT x p.1 p.2) with
    | none => rw [hq] at h; cases h
    | some k =>
      rw [hq] at h
      dsimp only at h
      split at h
      · have h1 : After (startT x p.1 p.2).t k.2.2.t := lineT_after _ _ _ _ hq
        obtain ⟨l, h1⟩ := h1
        obtain ⟨m, h2⟩ := linesT_after r _ _ _ h
        exact ⟨m ++ l, by rw [h2, h1, List.append_assoc]; rfl⟩
      · cases h
theorem linesT_fits : ∀ (ls : List (List Tk × List (Option Bool))) (c : Int) (x : OT) (q : Int × OT), linesT ls c x = some q → OOk x → (∀ p ∈ ls, (∀ t ∈ p.1, t.Ok) ∧ (flat p.1).length ≤ 600) → Valid q.2.t.log →
    Lines (ls.map fun p => ⟨(flat p.1).toArray⟩) c x.real (q.1, q.2.real) ∧ OOk q.2
  | [], c, x, q, h, ok, hl, v => by injection h with h; subst h; exact ⟨rfl, ok⟩
  | p :: r, c, x, q, h, ok, hl, v => by
    unfold linesT at h
    cases hq : lineT 60 3000 (startT x p.1 p.2) with
    | none => rw [hq] at h; cases h
    | some k =>
      rw [hq] at h
      dsimp only at h
      split at h
      · rename_i hn
        obtain ⟨h1, h2⟩ := hl p (List.mem_cons_self ..)
        obtain ⟨e1, e2⟩ := lineT_fits _ _ _ _ hq (startT_ok ok p.1 p.2 h1 h2) ((linesT_after r _ _ _ h).valid v)
        obtain ⟨f1, f2⟩ := linesT_fits r _ _ _ h e2 (fun p hp => hl p (List.mem_cons_of_mem _ hp)) v
        have hn2 : k.2.2.real.line = none := by
          show k.2.2.line.map flat = none
          cases hk : k.2.2.line with
          | none => rfl
          | some l => rw [hk] at hn; cases hn
        exact ⟨⟨h2, 60, _, e1, hn2, f1⟩, f2⟩
      · cases h
def tkLen : Tk → Nat
  | .c _ => 1
  | _ => 66
def tkB : Tk → Bool
  | .n _ b => decide (2 ≤ b) && decide (b ≤ 36)
  | _ => true
def lenT (l : List Tk) : Nat := (l.map tkLen).sum
theorem putV_len2 (v b : Int) (h : In v) (hb : 2 ≤ b ∧ b ≤ 36) : (Dg.putV v b).length ≤ 65 := by
  unfold Dg.putV
  rw [if_neg (by omega)]
  have hn : v.natAbs < 2 ^ 64 := by unfold In at h; omega
  have := Dg.putL_len b.toNat (by omega) 64 v.natAbs hn
  rw [List.length_append]
  split <;> simp <;> omega
theorem tk_len {t : Tk} (h : t.Ok) : t.bytes.length ≤ tkLen t := by
  cases t with
  | c b => exact Nat.le_refl _
  | n v b => have := putV_len2 v b h.1 h.2; show (Dg.putV v b).length ≤ 66; omega
  | d v => have := putV_len2 v 16 h (by decide); show (36 :: Dg.putV v 16).length ≤ 66; simp; omega
theorem flat_short : ∀ (l : List Tk), (∀ t ∈ l, t.Ok) → (flat l).length ≤ lenT l
  | [], _ => Nat.le_refl _
  | t :: r, h => by
    have h1 := tk_len (h t (List.mem_cons_self ..))
    have h2 := flat_short r fun t ht => h t (List.mem_cons_of_mem _ ht)
    have e : flat (t :: r) = t.bytes ++ flat r := rfl
    have e2 : lenT (t :: r) = tkLen t + lenT r := rfl
    rw [e, e2, List.length_append]
    omega
def inp0 : ByteArray := ⟨#[97, 98, 99]⟩
def begT (n : Nat) (inp : ByteArray) : OT := ⟨new Mc.opName n inp, ⟨Mc.boot n inp, [], 0, [], []⟩, none⟩
theorem begT_real (n : Nat) (inp : ByteArray) : (begT n inp).real = new Mc.opName n inp := rfl
end Go.Proofs.YtompdfpjmdnhoabGreatDoor.Ou
namespace Go.Proofs.YtompdfpjmdnhoabGreatDoor.Ou
open Go.RowKit Go.Proofs.YtompdfpjmdnhoabGreatDoor.Mc
def vars (l : List Tk) : List Int := l.filterMap fun t => match t with | .c _ => none | .n v _ => some v | .d v => some v
def allIn : List Int → Prop
  | [] => True
  | v :: l => In v ∧ allIn l
theorem allIn_mem : ∀ (l : List Int), allIn l → ∀ v ∈ l, In v
  | [], _, v, h => by cases h
  | x :: l, k, v, h => by
    rcases List.mem_cons.1 h with rfl | h
    · exact k.1
    · exact allIn_mem l k.2 v h
def plainB (l : List Tk) : Bool := l.all tkB && decide (lenT l ≤ 600)
theorem toks_ok (l : List Tk) (h : plainB l = true) (k : ∀ v ∈ vars l, In v) : (∀ t ∈ l, t.Ok) ∧ (flat l).length ≤ 600 := by
  unfold plainB at h
  rw [Bool.and_eq_true, List.all_eq_true, decide_eq_true_eq] at h
  have h1 : ∀ t ∈ l, t.Ok := fun t ht => by
    have hb := h.1 t ht
    cases t with
    | c b => trivial
    | n v b =>
      simp only [tkB, Bool.and_eq_true, decide_eq_true_eq] at hb
      exact ⟨k v (List.mem_filterMap.2 ⟨_, ht, rfl⟩), hb.1, hb.2⟩
    | d v => exact k v (List.mem_filterMap.2 ⟨_, ht, rfl⟩)
  exact ⟨h1, Nat.le_trans (flat_short l h1) h.2⟩
def Plays (ls : List (List Tk)) (c : Int) (out : List UInt8) : Prop :=
  (∀ l ∈ ls, (flat l).length ≤ 600) ∧ ∃ o, Lines (ls.map fun l => ⟨(flat l).toArray⟩) 0 (new Mc.opName 800 inp0) (c, o) ∧ o.m.out = ⟨out.toArray⟩
theorem boot_name : ∀ i : Fin 48, firstB i.1 = true → rightN (Mc.opName (i.1 : Int)) = true := by decide
theorem boot_in (n : Nat) (hn : n ≤ 3000) : ∀ x ∈ bootMem n, In x := by
  intro x hx
  obtain ⟨k, hk, rfl⟩ := List.mem_map.1 hx
  have hk2 := List.mem_range.1 hk
  unfold In
  split
  · omega
  split
  · split <;> omega
  · omega
theorem new_wo (n : Nat) (hn : n ≤ 3000) (inp : ByteArray) (hi : inp.size ≤ 5000) : Wo (new Mc.opName n inp) := by
  have hl : (bootMem n).length = n := by simp [bootMem]
  refine ⟨⟨(fun x h => by cases h), (fun x h => by cases h), boot_in n hn, in_zero, in_zero, Int.le_refl _, by show (0 : Int) ≤ inp.size; omega, Nat.zero_le _, hi, Nat.zero_le _, Nat.zero_le _, by show (bootMem n).length ≤ 3000; omega⟩, ?_, ?_, ?_, .inl rfl, (fun l e => by cases e), (fun d e => by cases e)⟩
  · show min 192 n ≤ (bootMem n).length
    omega
  · intro x hx
    obtain ⟨c, hc, rfl⟩ := List.mem_map.1 hx
    obtain ⟨hc, hf⟩ := List.mem_filter.1 hc
    have hc := List.mem_range.1 hc
    exact ⟨boot_name ⟨c, hc⟩ hf, by show (0 : Int) ≤ 64 + 2 * (c : Int); omega, by show 64 + 2 * (c : Int) ≤ 3000; omega, fun h => by have h : 192 ≤ 64 + 2 * (c : Int) := h; omega, by show -1 ≤ (c : Int) ∧ (c : Int) ≤ 47; omega⟩
  · show (words0 Mc.opName).length ≤ 200
    unfold words0
    rw [List.length_map]
    exact Nat.le_trans (List.length_filter_le _ _) (by simp)
theorem new_ok : OOk (begT 800 inp0) := by
  refine ⟨?_, (fun l e => by cases e), Nat.le_refl _, Nat.zero_le _⟩
  rw [begT_real]
  exact new_wo 800 (by decide) inp0 (by decide)
theorem plays_of (ls : List (List Tk × List (Option Bool))) (c : Int) (out : List (List UInt8)) (log : List (Bool × Bool)) {tl : List (List Tk)} (e : ls.map (·.1) = tl) {vl : List Int} (hp : tl.all plainB = true) (hp2 : tl.flatMap vars = vl)
    (h : (linesT ls 0 (begT 800 inp0)).map (fun q => (q.1, q.2.t.out, q.2.t.log)) = some (c, out, log)) (hv : allIn vl) (v : Valid log) : Plays tl c out.flatten := by
  cases hq : linesT ls 0 (begT 800 inp0) with
  | none => rw [hq] at h; cases h
  | some q =>
    rw [hq] at h
    injection h with h
    injection h with h1 h
    injection h with h2 h3
    subst h1 h2 h3 e
    have ok : ∀ l ∈ ls.map (·.1), (∀ t ∈ l, t.Ok) ∧ (flat l).length ≤ 600 := fun l hl => by
      refine toks_ok l (List.all_eq_true.1 hp l hl) fun x hx => ?_
      refine allIn_mem _ hv x ?_
      rw [← hp2]
      exact List.mem_flatMap.2 ⟨l, hl, hx⟩
    obtain ⟨f1, f2⟩ := linesT_fits ls 0 (begT 800 inp0) q hq new_ok (fun p k => ok p.1 (List.mem_map.2 ⟨p, k, rfl⟩)) v
    refine ⟨fun l hl => (ok l hl).2, q.2.real, ?_, rfl⟩
    rw [begT_real, List.map_map] at *
    exact f1
def inB (v : Int) : Bool := decide (-9223372036854775808 ≤ v) && decide (v ≤ 9223372036854775807)
def okB (tl : List (List Tk)) : Bool := tl.all plainB && (tl.flatMap vars).all inB
def runB (tl : List (List Tk)) : Option (Int × List (List UInt8) × List (Bool × Bool)) := (linesT (tl.map fun l => (l, [])) 0 (begT 800 inp0)).map (fun q => (q.1, q.2.t.out, q.2.t.log))
theorem allIn_of : ∀ l : List Int, l.all inB = true → allIn l
  | [], _ => trivial
  | v :: l, h => by
    rw [List.all_cons, Bool.and_eq_true] at h
    refine ⟨?_, allIn_of l h.2⟩
    have := h.1
    simp only [inB, Bool.and_eq_true, decide_eq_true_eq] at this
    unfold In
    omega
theorem plays_K (tl : List (List Tk)) (c : Int) (out : List (List UInt8)) (h : runB tl = some (c, out, [])) (hb : okB tl = true) : Plays tl c out.flatten := by
  unfold okB at hb
  rw [Bool.and_eq_true] at hb
  exact plays_of (tl.map fun l => (l, [])) c out [] (tl := tl) (by rw [List.map_map]; exact List.map_id _) hb.1 rfl h (allIn_of _ hb.2) (fun p hp => by cases hp)
theorem fam_of (f : Nat → Bool) (n : Nat) (h : (List.range n).all f = true) (k : Nat) (hk : k < n) : f k = true := List.all_eq_true.1 h k (List.mem_range.2 hk)
theorem fam_eq {α : Type} (f g : Nat → α) (n : Nat) (h : (List.range n).map f = (List.range n).map g) (k : Nat) (hk : k < n) : f k = g k := List.map_inj_left.1 h k (List.mem_range.2 hk)
end Go.Proofs.YtompdfpjmdnhoabGreatDoor.Ou
