/-
  Contract of the method Pass of the package hot.
-/
import Derived.Test.YtfoogcdpllkeoaaHotB
import Derived.Deep.DeepCutAuto
import Derived.BigQuiet
import Derived.Deep.QuietTactic
import Derived.Deep.RegionWith
namespace Go.Proofs.Ytfoogcdpllkeoaa.Hot
open Go.RowKit Go.Maps

/-- What eviction makes of the counts before k is counted. -/
def Evict (D : Dm) (k : Int) (D1 : Dm) : Prop :=
  if Maps.has D (ky k) = false ∧ 32 ≤ Maps.size D then ∃ k0, Least D k0 ∧ D1 = D.del (ky k0) else D1 = D

/-- What Pass k makes of the counts D, and its answer. -/
def Passed (D : Dm) (h k : Int) (b : Bool) (D' : Dm) : Prop :=
  ∃ D1 c, Evict D k D1 ∧ D1.atKey (ky k) (lit64 0) = lit64 c ∧ (Lit.int .i64 c).wf = true ∧
    ((wrap64 (c + 1) < h ∧ b = false ∧ D' = D1.put (ky k) (lit64 (wrap64 (c + 1)))) ∨ (¬ wrap64 (c + 1) < h ∧ b = true ∧ D' = (D1.put (ky k) (lit64 (wrap64 (c + 1)))).del (ky k)))

def PassPost (sb bm : Nat) (h k : Int) (D : Dm) (w : World) (e : Ending) (w' : World) : Prop :=
  ∃ b D', Passed D h k b D' ∧ e = .returned (.bool b) ∧ HotIs w' sb bm h D' ∧ w.grownBy w' (some bm)

theorem HotIs.drew {w : World} {sb bm : Nat} {h : Int} {D : Dm} (hh : HotIs w sb bm h D) : HotIs w.drew sb bm h D := hh
theorem grown_drew {w w' : World} {row : Option Nat} (hg : w.drew.grownBy w' row) : w.grownBy w' row := ⟨hg.os, hg.tape, hg.output, hg.size, hg.block⟩
theorem some_of_size {w : World} {b n : Nat} {D : Dm} (ho : w.ownsMap Try.prog 3 (plainElem Try.prog 3) b n D) (h : 1 ≤ Maps.size D) : ∃ k, Maps.has D k = true := by
  obtain ⟨es, rfl, _, hk⟩ := ho.entries law3
  cases es with
  | nil => simp [Maps.size] at h
  | cons x r => exact ⟨x.1, by simp [Maps.has, WideAt.sameKey_self (hk x (by simp))]⟩

theorem least_then (sb bm : Nat) (h : Int) (D : Dm) (w : World) (hh : HotIs w sb bm h D) (hsome : ∃ k, Maps.has D k = true) :
    Calls Try.prog 47 #[.pointer (some ⟨sb, 0, none⟩)] w fun e w' => ∃ k0 w2, e = .returned (.int .i64 k0) ∧ w'.cell? ⟨sb, 1, none⟩ = some (.map (some bm)) ∧ (Builtin.delete_ #[30, 3] 0 #[.map (some bm), .int .i64 k0]).run Try.prog w' = .ok (.tuple #[]) w2 ∧
      Hid (Least D k0 ∧ HotIs w2 sb bm h (D.del (ky k0)) ∧ w.grownBy w2 (some bm)) := by
  refine (least_any sb bm h D w hh hsome).mono ?_
  rintro e w' ⟨k0, hl, he, hg⟩
  have hh' := hh.grown hg (by simp) (by simp)
  obtain ⟨w2, hrun2, ho2, ht2⟩ := hh'.2.2.2.drop law3 Try.underlying30 (keyOf_int_mk Try.underlying3 hl.1) 0
  exact ⟨k0, w2, he, hh'.2.2.1, hrun2, hl, hh'.turned ht2.grown ho2, (hg.but _).andThen ht2.grown (fun j hj => Or.inr hj)⟩

theorem lit64_inj {a b : Int} (h : lit64 a = lit64 b) : a = b := by injection h with h; injection h

theorem look_ok3 (w : World) (b n : Nat) (D : Dm) (k : Int) (ho : w.ownsMap Try.prog 3 (plainElem Try.prog 3) b n D) (hk : (Lit.int .i64 k).wf = true) :
    ∃ c, (Instr.lookup 30 (.map (some b)) (.int .i64 k) true).run Try.prog w = .ok (.tuple #[.int .i64 c, .bool (Maps.has D (ky k))]) w := by
  obtain ⟨v, ps, hrun, hv⟩ := ho.look_ok law3 Try.underlying30 (zero3 _) (plainElem_int Try.underlying3 (by decide)) (keyOf_int_mk Try.underlying3 hk)
  obtain ⟨c, rfl, _, _⟩ := plainElem_int_inv Try.underlying3 hv
  exact ⟨c, hrun⟩

theorem look3 (w : World) (b n : Nat) (D : Dm) (k c : Int) (ho : w.ownsMap Try.prog 3 (plainElem Try.prog 3) b n D) (hk : (Lit.int .i64 k).wf = true) (hat : D.atKey (ky k) (lit64 0) = lit64 c) :
    ∀ m : Nat, (Instr.lookup 30 (.map (some b)) (.int .i64 k) false).run Try.prog (w.drewN m) = .ok (.int .i64 c) (w.drewN m) := by
  intro m
  obtain ⟨c', hrun, hat', _⟩ := World.ownsMap.lookup_int (w := w.drewN m) ho law3 Try.underlying30 Try.underlying3 (zero3 _) (keyOf_int_mk Try.underlying3 hk)
  have e : c' = c := lit64_inj (Eq.trans (Eq.symm hat') (show D.atKey (ky k) (lit64 0) = lit64 c from hat))
  rw [e] at hrun
  exact hrun

theorem size_del_le {D : Dm} (h : Tidy D) (k : Lit) : Maps.size (D.del k) ≤ Maps.size D := by
  have := size_del h (k := k)
  split at this <;> omega

theorem evict_full {D D1 : Dm} {k k0 : Int} (h1 : Maps.has D (ky k) = false) (h2 : 32 ≤ Maps.size D) (hl : Least D k0) (e : D1 = D.del (ky k0)) : Evict D k D1 := by
  unfold Evict
  rw [if_pos ⟨h1, h2⟩]
  exact ⟨k0, hl, e⟩

theorem evict_not {D : Dm} {k : Int} (h : ¬ (Maps.has D (ky k) = false ∧ 32 ≤ Maps.size D)) : Evict D k D := by
  unfold Evict
  rw [if_neg h]

theorem pass_nil (k : Int) (w : World) : Calls Try.prog 16 #[.pointer none, .int .i64 k] w fun e w' => e = .returned (.bool false) ∧ w = w' := by
  go_enter Try.func16, Try.ntmps16
  go_wp2
  go_ret
  exact ⟨rfl, rfl⟩

theorem pass_cold (sb bm : Nat) (h k : Int) (D : Dm) (w : World) (hh : HotIs w sb bm h D) (hp : h ≤ 0) :
    Calls Try.prog 16 #[.pointer (some ⟨sb, 0, none⟩), .int .i64 k] w fun e w' => e = .returned (.bool false) ∧ w = w' := by
  obtain ⟨hne, c0, c1, hown⟩ := hh
  go_enter Try.func16, Try.ntmps16
  go_wp2
  go_ret
  exact ⟨rfl, rfl⟩

set_option maxRecDepth 100000 in
theorem pass_full (sb bm : Nat) (h k : Int) (D : Dm) (w : World) (hh : HotIs w sb bm h D) (hp : 0 < h) (hk : (Lit.int .i64 k).wf = true) (hm : Maps.size D + 2 < maxLen)
    (hhas : Maps.has D (ky k) = false) (hs : 32 ≤ Maps.size D) :
    Calls Try.prog 16 #[.pointer (some ⟨sb, 0, none⟩), .int .i64 k] w (PassPost sb bm h k D w) := by
  obtain ⟨hne, c0, c1, hown⟩ := id hh
  have hkey := keyOf_int_mk Try.underlying3 hk
  have hlen := hown.len Try.underlying30 3
  have hsome : Hid (∃ k, Maps.has D k = true) := some_of_size hown (by omega)
  have hsz : (32 : Int) ≤ (Maps.size D : Int) := by omega
  go_enter Try.func16, Try.ntmps16
  go_upto_if 34 with (first
    | (at_lookup; refine wpList_lookup_own_ok_int _ rfl _ _ 30 rfl 3 3 .i64 law3 Try.underlying30 Try.underlying3 (zero3 _) bm _ D rfl hown _ _ rfl hkey ?_; intro c hat hwc))
  go_cut [] (fun wc => ∃ k0, Least D k0 ∧ HotIs wc sb bm h (D.del (ky k0)) ∧ w.grownBy wc (some bm))
  case first =>
    go_wp2_with fail
    go_region_with ((go_at_call 47; refine (least_then sb bm h D _ hh.drew hsome.out).mono ?_; rintro e w' ⟨k0, w2, rfl, c1', hrun2, H⟩))
    all_goals
      go_wp2_with fail
      go_meet
      exact ⟨k0, H.out.1, H.out.2.1, grown_drew H.out.2.2⟩
  case rest =>
    obtain ⟨k0, hl, hh1, hg1⟩ := hcut
    obtain ⟨D1, hD1⟩ : ∃ D1, D1 = D.del (ky k0) := ⟨_, rfl⟩
    rw [← hD1] at hh1
    have hEv : Hid (Evict D k D1) := evict_full hhas hs hl hD1
    have hsz1 : Maps.size D1 < maxLen := by have := size_del_le (hown.tidy law3) (ky k0); rw [hD1]; omega
    clear hown c0 c1 hlen hh
    obtain ⟨_, c0, c1, hown⟩ := id hh1
    obtain ⟨c, hrun, hat, hwc⟩ := hown.lookup_int law3 Try.underlying30 Try.underlying3 (zero3 _) hkey
    have hat' := Lib.hid hat
    clear hat
    go_wp2_with (first
      | (at_mapUpdate; refine wpList_mapUpdate_own _ rfl _ _ _ 30 rfl 3 3 law3 Try.underlying30 _ bm _ D1 rfl hown hsz1 _ _ _ rfl rfl hkey _ [] (plainElem_int Try.underlying3 (wrap64_wf _)) ?_; intro w3 hown3 hg3))
    have hh3 := hh1.turned hg3 hown3
    have hrun3 := look3 w3 bm _ (D1.put (ky k) (lit64 (wrap64 (c + 1)))) k (wrap64 (c + 1)) hown3 hk (atKey_put_same hown.isMap (show WideAt.IsKeyLit (ky k) from trivial) _ _)
    have hh3' : ∀ m, HotIs (w3.drewN m) sb bm h (D1.put (ky k) (lit64 (wrap64 (c + 1)))) := fun m => hh3
    have hg3' : ∀ m, wc.grownBy (w3.drewN m) (some bm) := fun m => ⟨hg3.os, hg3.tape, hg3.output, hg3.size, hg3.block⟩
    have c03 := hh3.2.1
    have c13 := hh3.2.2.1
    go_quiet (fail)
    by_cases hc : wrap64 (c + 1) < h
    · go_wp2
      go_ret
      exact ⟨false, _, ⟨D1, c, hEv.out, hat'.out, hwc, Or.inl ⟨hc, rfl, rfl⟩⟩, rfl, hh3' _, hg1.andThen (hg3' _) (fun j hj => Or.inr hj)⟩
    · go_wp2_with (first
        | (at_delete; refine wpList_delete_own _ rfl _ _ 30 3 rfl 3 law3 Try.underlying30 _ bm _ _ rfl (hh3' _).2.2.2 _ _ rfl hkey ?_; intro w4 hown4 hturn4))
      go_ret
      exact ⟨true, _, ⟨D1, c, hEv.out, hat'.out, hwc, Or.inr ⟨by omega, rfl, rfl⟩⟩, rfl, (hh3' _).turned hturn4.grown hown4, (hg1.andThen (hg3' _) (fun j hj => Or.inr hj)).andThen hturn4.grown (fun j hj => Or.inr hj)⟩

set_option maxRecDepth 100000 in
theorem pass_room (sb bm : Nat) (h k : Int) (D : Dm) (w : World) (hh : HotIs w sb bm h D) (hp : 0 < h) (hk : (Lit.int .i64 k).wf = true) (hm : Maps.size D + 2 < maxLen)
    (hno : ¬ (Maps.has D (ky k) = false ∧ 32 ≤ Maps.size D)) :
    Calls Try.prog 16 #[.pointer (some ⟨sb, 0, none⟩), .int .i64 k] w (PassPost sb bm h k D w) := by
  obtain ⟨hne, c0, c1, hown⟩ := id hh
  have hkey := keyOf_int_mk Try.underlying3 hk
  have hEv : Hid (Evict D k D) := evict_not hno
  have hsz1 : Maps.size D < maxLen := by omega
  obtain ⟨c, hrun, hat, hwc⟩ := hown.lookup_int law3 Try.underlying30 Try.underlying3 (zero3 _) hkey
  have hat' := Lib.hid hat
  clear hat
  cases hhas : Maps.has D (ky k)
  all_goals
    obtain ⟨c', hrun'⟩ := look_ok3 w bm _ D k hown hk
    rw [hhas] at hrun'
    have hlen := hown.len Try.underlying30 3
    have hsz : Maps.has D (ky k) = false → (Maps.size D : Int) < 32 := by simp at hno; intro h; have := hno h; omega
    try simp only [hhas, true_implies] at hsz
    go_enter Try.func16, Try.ntmps16
    go_wp2_with (first
      | (at_mapUpdate; refine wpList_mapUpdate_own _ rfl _ _ _ 30 rfl 3 3 law3 Try.underlying30 _ bm _ D rfl hown hsz1 _ _ _ rfl rfl hkey _ [] (plainElem_int Try.underlying3 (wrap64_wf _)) ?_; intro w3 hown3 hg3))
    have hh3 := hh.turned hg3 hown3
    have hrun3 := look3 w3 bm _ (D.put (ky k) (lit64 (wrap64 (c + 1)))) k (wrap64 (c + 1)) hown3 hk (atKey_put_same hown.isMap (show WideAt.IsKeyLit (ky k) from trivial) _ _)
    have hh3' : ∀ m, HotIs (w3.drewN m) sb bm h (D.put (ky k) (lit64 (wrap64 (c + 1)))) := fun m => hh3
    have hg3' : ∀ m, w.grownBy (w3.drewN m) (some bm) := fun m => ⟨hg3.os, hg3.tape, hg3.output, hg3.size, hg3.block⟩
    have c03 := hh3.2.1
    have c13 := hh3.2.2.1
    go_quiet (fail)
    by_cases hc : wrap64 (c + 1) < h
    · go_wp2
      go_ret
      exact ⟨false, _, ⟨D, c, hEv.out, hat'.out, hwc, Or.inl ⟨hc, rfl, rfl⟩⟩, rfl, hh3' _, (World.grownBy.refl w (some bm)).andThen (hg3' _) (fun j hj => Or.inr hj)⟩
    · go_wp2_with (first
        | (at_delete; refine wpList_delete_own _ rfl _ _ 30 3 rfl 3 law3 Try.underlying30 _ bm _ _ rfl (hh3' _).2.2.2 _ _ rfl hkey ?_; intro w4 hown4 hturn4))
      go_ret
      exact ⟨true, _, ⟨D, c, hEv.out, hat'.out, hwc, Or.inr ⟨by omega, rfl, rfl⟩⟩, rfl, (hh3' _).turned hturn4.grown hown4, ((World.grownBy.refl w (some bm)).andThen (hg3' _) (fun j hj => Or.inr hj)).andThen hturn4.grown (fun j hj => Or.inr hj)⟩


theorem pass_any (sb bm : Nat) (h k : Int) (D : Dm) (w : World) (hh : HotIs w sb bm h D) (hp : 0 < h) (hk : (Lit.int .i64 k).wf = true) (hm : Maps.size D + 2 < maxLen) :
    Calls Try.prog 16 #[.pointer (some ⟨sb, 0, none⟩), .int .i64 k] w (PassPost sb bm h k D w) := by
  by_cases hno : Maps.has D (ky k) = false ∧ 32 ≤ Maps.size D
  · exact pass_full sb bm h k D w hh hp hk hm hno.1 hno.2
  · exact pass_room sb bm h k D w hh hp hk hm hno

end Go.Proofs.Ytfoogcdpllkeoaa.Hot
