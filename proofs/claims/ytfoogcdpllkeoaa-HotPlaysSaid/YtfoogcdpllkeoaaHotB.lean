/-
  Contract of the method least of the package hot.
-/
import Derived.Test.YtfoogcdpllkeoaaHotA
import Derived.BigQuiet
import Derived.Deep.QuietTactic
import Derived.Deep.LoopGhost
namespace Go.Proofs.Ytfoogcdpllkeoaa.Hot
open Go.RowKit Go.Maps

/-- Key k has count c. -/
def At (D : Dm) (k c : Int) : Prop := ∀ z, D.atKey (ky k) z = lit64 c

/-- Of the keys for which S holds k0, with count m0, was passed least (of two alike the smaller). -/
def LeastIn (D : Dm) (S : Int → Prop) (k0 : Int) : Prop :=
  ∃ m0, At D k0 m0 ∧ S k0 ∧ ∀ k c, S k → At D k c → m0 < c ∨ (m0 = c ∧ k0 ≤ k)

def Met (D : Dm) (left : Lit → Bool) (first : Bool) (k0 : Int) : Prop :=
  match first with
  | true => k0 = 0 ∧ left = Maps.has D
  | false => (Lit.int .i64 k0).wf = true ∧ left (ky k0) = false ∧ Maps.has D (ky k0) = true ∧ LeastIn D (fun k => Maps.has D (ky k) = true ∧ left (ky k) = false) k0

theorem at_has {D : Dm} {k c : Int} (h : At D k c) : Maps.has D (ky k) = true := has_true_of_atKey h
theorem at_at {D : Dm} {k c : Int} (h : Maps.has D (ky k) = true) (z : Dm) (hc : D.atKey (ky k) z = lit64 c) : At D k c := by
  intro z'
  rw [← hc]
  cases D with
  | map es =>
    obtain ⟨p, hp, hpk⟩ := List.any_eq_true.1 h
    have hs : (es.find? (fun p => p.1.sameKey (ky k))).isSome = true := List.find?_isSome.2 ⟨p, hp, hpk⟩
    obtain ⟨x, hx⟩ := Option.isSome_iff_exists.1 hs
    simp [DataW.atKey, hx]
  | _ => cases h

theorem met_first {D : Dm} {left : Lit → Bool} {k c : Int} (hm : Met D left true 0) (hw : (Lit.int .i64 k).wf = true) (hat : At D k c) :
    Met D (fun z => left z && !z.sameKey (ky k)) false k := by
  obtain ⟨_, rfl⟩ := hm
  refine ⟨hw, by simp [WideAt.sameKey_self (show WideAt.IsKeyLit (ky k) from trivial)], at_has hat, c, hat, ⟨at_has hat, by simp [WideAt.sameKey_self (show WideAt.IsKeyLit (ky k) from trivial)]⟩, ?_⟩
  rintro k' c' ⟨h1, h2⟩ hat'
  simp [h1] at h2
  have := WideAt.sameKey_eq h2
  have e : k' = k := by cases this; rfl
  subst e
  have := (hat .nil).symm.trans (hat' .nil)
  have e : c = c' := by injection this with this; injection this
  exact Or.inr ⟨e, Int.le_refl _⟩

theorem met_next {D : Dm} {left : Lit → Bool} {k0 k c m0 : Int} (hm : Met D left false k0) (hm0 : At D k0 m0) (hw : (Lit.int .i64 k).wf = true) (hl : left (ky k) = true) (hat : At D k c)
    (k1 : Int) (h1 : (c < m0 ∧ k1 = k) ∨ (c = m0 ∧ k1 = min k0 k) ∨ (m0 < c ∧ k1 = k0)) :
    Met D (fun z => left z && !z.sameKey (ky k)) false k1 := by
  obtain ⟨w0, l0, a0, m0', hm0', _, hle⟩ := hm
  have e0 : m0' = m0 := by have := (hm0' .nil).symm.trans (hm0 .nil); injection this with this; injection this
  subst e0
  have hk1 : k1 = k ∨ k1 = k0 := by omega
  have hS : ∀ k', left (ky k') = false → (left (ky k') && !(ky k').sameKey (ky k)) = false := fun k' h => by simp [h]
  have hSk : (left (ky k) && !(ky k).sameKey (ky k)) = false := by simp [WideAt.sameKey_self (show WideAt.IsKeyLit (ky k) from trivial)]
  have hinv : ∀ k', (left (ky k') && !(ky k').sameKey (ky k)) = false → left (ky k') = false ∨ k' = k := fun k' h => by
    cases hl' : left (ky k')
    · exact Or.inl rfl
    · simp [hl'] at h
      have := WideAt.sameKey_eq h
      exact Or.inr (by cases this; rfl)
  have hfst : Maps.has D (ky k1) = true ∧ (left (ky k1) && !(ky k1).sameKey (ky k)) = false ∧ (Lit.int .i64 k1).wf = true := by
    rcases hk1 with rfl | rfl
    · exact ⟨at_has hat, hSk, hw⟩
    · exact ⟨a0, hS _ l0, w0⟩
  refine ⟨hfst.2.2, hfst.2.1, hfst.1, min m0' c, ?_, ⟨hfst.1, hfst.2.1⟩, ?_⟩
  · rcases h1 with ⟨h, rfl⟩ | ⟨h, rfl⟩ | ⟨h, rfl⟩
    · rw [show min m0' c = c by omega]; exact hat
    · subst h
      rw [show min c c = c by omega]
      by_cases hh : k0 ≤ k
      · rw [show min k0 k = k0 by omega]; exact hm0
      · rw [show min k0 k = k by omega]; exact hat
    · rw [show min m0' c = m0' by omega]; exact hm0
  · rintro k' c' ⟨h2, h3⟩ hat'
    rcases hinv k' h3 with h4 | rfl
    · have := hle k' c' ⟨h2, h4⟩ hat'
      omega
    · have e : c = c' := by have := (hat .nil).symm.trans (hat' .nil); injection this with this; injection this
      subst e
      omega

/-- The result of least over a map that is not empty. -/
def Least (D : Dm) (k0 : Int) : Prop := (Lit.int .i64 k0).wf = true ∧ LeastIn D (fun k => Maps.has D (ky k) = true) k0

theorem least_unique {D : Dm} {k k' : Int} (h : Least D k) (h' : Least D k') : k = k' := by
  obtain ⟨_, m, a, b, c⟩ := h
  obtain ⟨_, m', a', b', c'⟩ := h'
  have h1 := c _ _ b' a'
  have h2 := c' _ _ b a
  omega

theorem met_end {D : Dm} {left : Lit → Bool} {first : Bool} {k0 : Int} (hm : Met D left first k0) (hl : ∀ kl, left kl = false) (hne : ∃ k, Maps.has D k = true) : Least D k0 := by
  cases first
  · obtain ⟨w0, _, a0, m0, x1, _, x3⟩ := hm
    exact ⟨w0, m0, x1, a0, fun k c hs ha => x3 k c ⟨hs, hl _⟩ ha⟩
  · obtain ⟨_, rfl⟩ := hm
    obtain ⟨k, hk⟩ := hne
    rw [hl] at hk
    cases hk

theorem min_if (a b : Int) : Value.int .i64 (if b < a then b else a) = .int .i64 (min a b) := by
  congr 1
  split <;> omega

set_option maxRecDepth 100000 in
theorem least_any (sb bm : Nat) (h : Int) (D : Dm) (w : World) (hh : HotIs w sb bm h D) (hsome : ∃ k, Maps.has D k = true) :
    Calls Try.prog 47 #[.pointer (some ⟨sb, 0, none⟩)] w fun e w' => ∃ k0, Least D k0 ∧ e = .returned (.int .i64 k0) ∧ w.grownBy w' none := by
  obtain ⟨hne, c0, c1, hown⟩ := hh
  have hsb : sb < w.heap.size := World.block_lt_of_cell? w ⟨sb, 1, none⟩ c1
  go_enter Try.func47, Try.ntmps47
  go_wp2_with (first
    | (at_range; refine wpList_range_own _ rfl _ 30 rfl 3 3 law3 Try.underlying30 _ bm _ _ rfl hown ?_; intro w0 hrg0 hg0 hs0)
    | go_in)
  go_frame
  go_loopw [3, 4] (fun out first wr => ∃ (left : Lit → Bool) (cnt : Nat) (k0 : Int) (fs : Bool), wr.ranges Try.prog 3 (plainElem Try.prog 3) bm w.heap.size (Maps.size D) D left cnt ∧ w.grownBy wr none ∧ out = .int .i64 k0 ∧ first = .bool fs ∧ Met D left fs k0)
    (fun _ _ wr => wr.rangeLeft bm w.heap.size)
  case atStart => exact ⟨_, _, 0, true, hrg0, hg0, rfl, rfl, rfl, rfl⟩
  case round =>
    obtain ⟨left, cnt, k0, fs, hrg, hgw, rfl, rfl, hmet⟩ := hrel
    go_wp2_with (first
      | (at_next; refine wpList_next_ranges_ii _ rfl _ rfl 3 3 .i64 .i64 law3 Try.underlying3 Try.underlying3 bm w.heap.size _ _ _ _ rfl hrg ?_ ?_)
      | go_in)
    · intro _ hl0
      go_wp2
      go_ret
      exact ⟨k0, met_end hmet hl0 hsome, rfl, hgw⟩
    · intro x c w1 cnt1 hwx hwc hlx hat hrg1 hlt hg1 hs1 hen
      have hgw1 := hgw.andThen hg1 (fun j hj => by cases hj; exact Or.inl (Nat.le_refl _))
      have c1' := hgw1.cell c1 (by simp)
      cases fs
      · have hm0 := hmet
        obtain ⟨w0, _, a0, m0, x1, _, _⟩ := hm0
        obtain ⟨m, hrun, hatm, hwm⟩ := hrg1.owns.lookup_int law3 Try.underlying30 Try.underlying3 (zero3 _) (keyOf_int_mk Try.underlying3 w0)
        have em : At D k0 m := at_at a0 _ hatm
        have hnx := met_next hmet em hwx hlx hat
        clear hmet x1 hatm hat hsome hown hlx a0 em
        have H := Lib.hid hnx
        clear hnx
        by_cases h1 : c < m
        · go_wp2
          go_roundw
          case rel => exact ⟨_, cnt1, x, false, hrg1, hgw1, rfl, rfl, H.out x (Or.inl ⟨h1, rfl⟩)⟩
          case measure => rw [hrg1.left_eq, hrg.left_eq]; exact hlt
        · by_cases h2 : c = m
          · subst h2
            go_wp2
            go_roundw
            case rel => exact ⟨_, cnt1, min k0 x, false, hrg1, hgw1, (min_if k0 x), rfl, H.out _ (Or.inr (Or.inl ⟨rfl, rfl⟩))⟩
            case measure => rw [hrg1.left_eq, hrg.left_eq]; exact hlt
          · go_wp2
            go_roundw
            case rel => exact ⟨_, cnt1, k0, false, hrg1, hgw1, rfl, rfl, H.out _ (Or.inr (Or.inr ⟨by omega, rfl⟩))⟩
            case measure => rw [hrg1.left_eq, hrg.left_eq]; exact hlt
      · obtain ⟨rfl, _⟩ := id hmet
        have hnx := met_first hmet hwx hat
        clear hmet hat hsome hown hlx
        have H := Lib.hid hnx
        clear hnx
        go_wp2
        go_roundw
        case rel => exact ⟨_, cnt1, x, false, hrg1, hgw1, rfl, rfl, H.out⟩
        case measure => rw [hrg1.left_eq, hrg.left_eq]; exact hlt
end Go.Proofs.Ytfoogcdpllkeoaa.Hot
