/-
  Contracts of the methods New, Count, Len and Forget of the package hot, over this seat's translation.
-/
import Derived.Test.YtfoogcdpllkeoaaRows
import Derived.Maps.OwnSet
import Derived.Maps.RangeWalk
import Derived.WalkKit
import Derived.Lib.Hide
namespace Go.Proofs.Ytfoogcdpllkeoaa.Hot
open Go.RowKit Go.Maps

theorem law3 : Keyed Try.prog 3 := int_keyed Try.underlying3
theorem zero3 (w : World) : (zeroValue 3).run Try.prog w = .ok (.int .i64 0) w := by kernel_rfl

abbrev Dm := DataW Unit
abbrev ky (k : Int) : Lit := .int .i64 k
abbrev lit64 (k : Int) : Dm := .lit (.int .i64 k)

/-- A Hot at block sb: its bound and its map at block bm. -/
def HotIs (w : World) (sb bm : Nat) (h : Int) (D : Dm) : Prop :=
  sb ≠ bm ∧ w.cell? ⟨sb, 0, none⟩ = some (.int .i64 h) ∧ w.cell? ⟨sb, 1, none⟩ = some (.map (some bm)) ∧ w.ownsMap Try.prog 3 (plainElem Try.prog 3) bm (Maps.size D) D

theorem owns_tight {w : World} {b n : Nat} {D : Dm} (h : w.ownsMap Try.prog 3 (plainElem Try.prog 3) b n D) : w.ownsMap Try.prog 3 (plainElem Try.prog 3) b (Maps.size D) D := by
  obtain ⟨es, clock, hb, F, hs, rfl⟩ := h
  exact ⟨es, clock, hb, F, by simp only [Maps.size]; rw [length_sorted]; simp, rfl⟩

theorem HotIs.grown {w w' : World} {sb bm : Nat} {h : Int} {D : Dm} (hh : HotIs w sb bm h D) {row : Option Nat} (hg : w.grownBy w' row) (h1 : some sb ≠ row) (h2 : some bm ≠ row) : HotIs w' sb bm h D :=
  ⟨hh.1, hg.cell hh.2.1 h1, hg.cell hh.2.2.1 h1, hh.2.2.2.kept hg h2⟩

theorem HotIs.turned {w w' : World} {sb bm : Nat} {h : Int} {D D' : Dm} (hh : HotIs w sb bm h D) {n : Nat} (hg : w.grownBy w' (some bm)) (ho : w'.ownsMap Try.prog 3 (plainElem Try.prog 3) bm n D') : HotIs w' sb bm h D' :=
  ⟨hh.1, hg.cell hh.2.1 (by simpa using hh.1), hg.cell hh.2.2.1 (by simpa using hh.1), owns_tight ho⟩

theorem new_any (h : Int) (w : World) :
    Calls Try.prog 15 #[.int .i64 h] w fun e w' => e = .returned (.pointer (some ⟨w.heap.size + 1, 0, none⟩)) ∧ HotIs w' (w.heap.size + 1) w.heap.size h (.map []) ∧ Below w.heap.size w w' ∧ w.heap.size + 2 ≤ w'.heap.size := by
  have hmm := @run_makeMap Try.prog
  go_enter Try.func15, Try.ntmps15
  go_wp2
  go_ret
  refine ⟨rfl, ⟨by omega, by go_simp, by go_simp, (World.ownsMap_made w Try.prog 3 _).alloc _⟩, ((Below.refl _ _).alloc (Nat.le_refl _) _).alloc (by simp) _, by simp⟩

theorem count_any (sb bm : Nat) (h k : Int) (D : Dm) (w : World) (hh : HotIs w sb bm h D) (hk : (Lit.int .i64 k).wf = true) :
    Calls Try.prog 17 #[.pointer (some ⟨sb, 0, none⟩), .int .i64 k] w fun e w' => ∃ c, e = .returned (.int .i64 c) ∧ D.atKey (ky k) (lit64 0) = lit64 c ∧ (Lit.int .i64 c).wf = true ∧ w = w' := by
  obtain ⟨hne, c0, c1, hown⟩ := hh
  go_enter Try.func17, Try.ntmps17
  go_wp2_with (first
    | (at_lookup; refine wpList_lookup_own_int _ rfl _ _ 30 rfl 3 3 .i64 law3 Try.underlying30 Try.underlying3 (zero3 _) bm _ D rfl hown _ _ rfl (keyOf_int_mk Try.underlying3 hk) ?_; intro c hat hwc)
    | go_in)
  go_ret
  exact ⟨c, rfl, hat, hwc, rfl⟩

theorem count_nil (k : Int) (w : World) :
    Calls Try.prog 17 #[.pointer none, .int .i64 k] w fun e w' => e = .returned (.int .i64 0) ∧ w = w' := by
  go_enter Try.func17, Try.ntmps17
  go_wp2
  go_ret
  exact ⟨rfl, rfl⟩

theorem len_any (sb bm : Nat) (h : Int) (D : Dm) (w : World) (hh : HotIs w sb bm h D) :
    Calls Try.prog 18 #[.pointer (some ⟨sb, 0, none⟩)] w fun e w' => e = .returned (.int .i64 (Maps.size D)) ∧ w = w' := by
  obtain ⟨hne, c0, c1, hown⟩ := hh
  go_enter Try.func18, Try.ntmps18
  go_wp2_with (first
    | (at_len; refine wpList_len_own _ rfl _ 30 rfl 3 3 Try.underlying30 _ bm _ D rfl hown ?_)
    | go_in)
  go_ret
  exact ⟨rfl, rfl⟩

theorem len_nil (w : World) :
    Calls Try.prog 18 #[.pointer none] w fun e w' => e = .returned (.int .i64 0) ∧ w = w' := by
  go_enter Try.func18, Try.ntmps18
  go_wp2
  go_ret
  exact ⟨rfl, rfl⟩

theorem forget_any (sb bm : Nat) (h k : Int) (D : Dm) (w : World) (hh : HotIs w sb bm h D) (hk : (Lit.int .i64 k).wf = true) :
    Calls Try.prog 19 #[.pointer (some ⟨sb, 0, none⟩), .int .i64 k] w fun e w' => e = .returned (.tuple #[]) ∧ HotIs w' sb bm h (D.del (ky k)) ∧ w.mapTurned w' bm := by
  obtain ⟨hne, c0, c1, hown⟩ := hh
  go_enter Try.func19, Try.ntmps19
  go_wp2_with (first
    | (at_delete; refine wpList_delete_own _ rfl _ _ 30 3 rfl 3 law3 Try.underlying30 _ bm _ D rfl hown _ _ rfl (keyOf_int_mk Try.underlying3 hk) ?_; intro w1 hown1 hturn1)
    | go_in)
  go_end0
  exact ⟨rfl, ⟨hne, hturn1.grown.cell c0 (by simpa using hne), hturn1.grown.cell c1 (by simpa using hne), owns_tight hown1⟩, hturn1⟩

theorem forget_nil (k : Int) (w : World) :
    Calls Try.prog 19 #[.pointer none, .int .i64 k] w fun e w' => e = .returned (.tuple #[]) ∧ w = w' := by
  go_enter Try.func19, Try.ntmps19
  go_wp2
  go_end0
  exact ⟨rfl, rfl⟩

end Go.Proofs.Ytfoogcdpllkeoaa.Hot
