/-
  Chapter 2 (fault): Error through the interface; Words.
-/
import Derived.Test.YtcfkhbkhejaegaaDoorFtI
namespace Go.Proofs.YtcfkhbkhejaegaaDoor.Ft
open Go.RowKit Go.Extern.Stop Go.Stop Go.Extern

theorem below_drew {B : Nat} {w w' : World} (h : Below B w.drew w') : Below B w w' := ⟨h.os, h.tape, h.output, h.size, h.block⟩
theorem err_any (code ip : Int) :
    ∀ (l : List ByteArray) (v : Value) (w : World), ErrIs w code ip l v → Ok code ip w → (errB code ip l).size ≤ 8388608 →
      ∃ b, v = .iface (errTy l) (.pointer (some ⟨b, 0, none⟩)) ∧ Calls Tryd.prog (errFn l) #[.pointer (some ⟨b, 0, none⟩)] w fun e w' => e = .returned (.string (errB code ip l)) ∧ Below w.heap.size w w'
  | [], _, w, ⟨b, h1, h2⟩, hs, _ => ⟨b, h1, ferr_any code ip b w h2 hs⟩
  | s :: r, _, w, ⟨b, u, h1, h2, h3⟩, hs, hz => by
    have hz2 : (errB code ip r).size ≤ 8388608 := by
      have : (errB code ip (s :: r)).size = s.size + 2 + (errB code ip r).size := by
        show ((s ++ (⟨#[58, 32]⟩ : ByteArray)) ++ errB code ip r).size = _
        rw [ByteArray.size_append, ByteArray.size_append]; rfl
      omega
    obtain ⟨bu, rfl, hc⟩ := err_any code ip r u w.drew (h3.below (below_of_draw (Below.refl _ _) 1)) hs.drew hz2
    exact ⟨b, h1, serr_any code ip s r hz b bu w h2 (hc.mono fun e w' h => ⟨h.1, below_drew h.2⟩)⟩

theorem ErrIs.far {w : World} {code ip : Int} {t : Nat} {cs : Array Value} (ht : Blk w t 74 cs) (x : Value) : ∀ {ws : List ByteArray} {v : Value}, ErrIs w code ip ws v → ErrIs (w.setCell ⟨t, 0, none⟩ x) code ip ws v
  | [], _, ⟨b, h1, h2⟩ => ⟨b, h1, h2.far (p := ⟨t, 0, none⟩) (Blk.ne_ h2 ht (by decide)) x⟩
  | _ :: _, _, ⟨b, u, h1, h2, h3⟩ => ⟨b, u, h1, h2.far (p := ⟨t, 0, none⟩) (Blk.ne_ h2 ht (by decide)) x, ErrIs.far ht x h3⟩
theorem touch_set (w : World) (t : Nat) (x : Value) : Touch w (w.setCell ⟨t, 0, none⟩ x) (· = t) :=
  ⟨rfl, rfl, rfl, by simp, fun k _ hn => Below.heap_setCell w ⟨t, 0, none⟩ x k hn⟩
theorem own_less {w : World} {B B' : Nat} (h : B' ≤ B) {e sz n : Nat} {v : Value} {xs : List Value} (H : w.ownsRow B e sz v n xs) : w.ownsRow B' e sz v n xs := by
  refine ⟨H.1, ?_⟩
  rcases H.2 with h0 | ⟨g, cap, cur, hv, hg, rest⟩
  · exact .inl h0
  · exact .inr ⟨g, cap, cur, hv, by omega, rest⟩
theorem ErrIs.keep {w w' : World} {code ip : Int} (hk : ∀ g t cs, Blk w g t cs → t ≠ 9 → Blk w' g t cs) : ∀ {ws : List ByteArray} {v : Value}, ErrIs w code ip ws v → ErrIs w' code ip ws v
  | [], _, ⟨b, h1, h2⟩ => ⟨b, h1, hk _ _ _ h2 (by decide)⟩
  | _ :: _, _, ⟨b, u, h1, h2, h3⟩ => ⟨b, u, h1, hk _ _ _ h2 (by decide), ErrIs.keep hk h3⟩
theorem infoStr : (Tryd.prog.info? 9).map (fun i => (i.zero, i.size, i.bytes)) = some (some (.string ⟨#[]⟩), 1, 16) := by kernel_rfl

theorem words_nil (w : World) : Calls Tryd.prog 25 #[.nilIface] w fun e w' => e = .returned (.slice none 0 0) ∧ Below w.heap.size w w' := by
  go_enter Tryd.func25, Tryd.ntmps25
  go_wp2_with fail
  refine wp_loop_rounds 1 ?_
  rw [rounds_succ]
  go_wp2_with fail
  refine (As_nil _ _).mono ?_
  rintro e w' ⟨rfl, rfl⟩
  go_wp2_with fail
  go_ret
  exact ⟨rfl, (Below.refl _ _).alloc (Nat.le_refl _) _⟩

set_option maxHeartbeats 4000000 in
set_option maxRecDepth 100000 in
theorem words_any (code ip : Int) (ws : List ByteArray) (v : Value) (w : World) (H : ErrIs w code ip ws v) (hs : HandleIs w) (hn : ws.length ≤ 1000) :
    Calls Tryd.prog 25 #[v] w fun e w' => ∃ out, e = .returned out ∧ w'.ownsRow w.heap.size 9 1 out ws.length (ws.map .string) ∧ Below w.heap.size w w' := by
  obtain ⟨i0, hi0, hz0, hz1, hz2⟩ := info_parts infoStr
  have HH := Lib.hid H
  have HS := Lib.hid hs
  have HN := Lib.hid hn
  clear H hs hn
  have b0 : Below w.heap.size w (w.alloc (.cells #[.pointer none] 74)) := (Below.refl _ _).alloc (Nat.le_refl _) _
  have HB0 := Lib.hid b0
  clear b0
  go_enter Tryd.func25, Tryd.ntmps25
  go_wp2_with fail
  go_loopg [0, 3] ws.length (fun g ve vo wr => ∃ (k : Nat) (l done : List ByteArray) (x : Value), g = l.length ∧ ws = done ++ l ∧ k = done.length ∧ Hid (ErrIs wr code ip l ve) ∧ Hid (Blk wr w.heap.size 74 #[x]) ∧ Hid (wr.ownsRow (w.heap.size + 1) 9 1 vo k (done.map .string)) ∧ Hid (Below w.heap.size w wr))
  case atStart => exact ⟨0, ws, [], .pointer none, rfl, rfl, rfl, HH.out.below HB0.out, Blk.new _ _ _, World.ownsRow_nil _ _ _ _, HB0.out⟩
  case round =>
    obtain ⟨k, l, done, x, hg, hws, hk, HE, HT, HO, HB⟩ := hrel
    have Hg := Lib.hid hg
    have Hws := Lib.hid hws
    have Hk := Lib.hid hk
    clear hg hws hk HH
    have t0 : wr.cell? ⟨w.heap.size, 0, none⟩ = some x := HT.out.cell 0
    have z0 : wr.frozen? ⟨w.heap.size, 0, none⟩ = false := HT.out.frozen 0
    cases l with
    | nil =>
      obtain ⟨b, rfl, hb⟩ := HE.out
      have HM := Lib.hid (As_s_miss b w.heap.size x wr (HS.out.below HB.out) t0 z0)
      go_wp2_with fail
      refine HM.out.mono ?_
      rintro e w' ⟨rfl, hb1⟩
      have HB1 := Lib.hid hb1
      clear hb1 HM
      go_wp2_with fail
      go_ret
      refine ⟨_, rfl, ?_, HB.out.trans (HB1.out.mono HB.out.size)⟩
      have hw : ws = done := by rw [Hws.out]; simp
      rw [hw, ← Hk.out]
      obtain ⟨A, c, rfl⟩ := own_slice HO.out
      exact own_less (Nat.le_succ _) (own_touch HO.out (Touch.of_below HB1.out (fun _ => False)) (fun _ _ h => h))
    | cons s r =>
      obtain ⟨b, u, rfl, hb, hr⟩ := HE.out
      have HM := Lib.hid (As_s_hit b w.heap.size x wr (HS.out.below HB.out) t0 z0)
      have g1 : Blk (wr.setCell ⟨w.heap.size, 0, none⟩ (.pointer (some ⟨b, 0, none⟩))) w.heap.size 74 #[.pointer (some ⟨b, 0, none⟩)] := HT.out.set_ 0 _
      have g2 := hb.far (p := ⟨w.heap.size, 0, none⟩) (Blk.ne_ hb HT.out (by decide)) (.pointer (some ⟨b, 0, none⟩))
      have g3 := ErrIs.far HT.out (.pointer (some ⟨b, 0, none⟩)) hr
      have g4 := HB.out.setCell (p := ⟨w.heap.size, 0, none⟩) (Nat.le_refl _) (.pointer (some ⟨b, 0, none⟩))
      obtain ⟨A, c, rfl⟩ := own_slice HO.out
      have g5 : (wr.setCell ⟨w.heap.size, 0, none⟩ (.pointer (some ⟨b, 0, none⟩))).ownsRow (w.heap.size + 1) 9 1 (.slice A k c) k (done.map .string) :=
        own_touch HO.out (touch_set wr w.heap.size _) (fun q hq h => by have := (own_block HO.out hq).1; omega)
      have hsz : (wr.setCell ⟨w.heap.size, 0, none⟩ (.pointer (some ⟨b, 0, none⟩))).heap.size = wr.heap.size := by simp
      have G := Lib.hid (And.intro g1 (And.intro g2 (And.intro g3 (And.intro g4 g5))))
      have G0 := Lib.hid hsz
      clear g1 g2 g3 g4 g5 hb hr HE HO HT t0 z0 hsz
      go_wp2_with fail
      refine HM.out.mono ?_
      rintro e w' ⟨rfl, hb1⟩
      have hb2 : Below (wr.setCell ⟨w.heap.size, 0, none⟩ (.pointer (some ⟨b, 0, none⟩))).heap.size (wr.setCell ⟨w.heap.size, 0, none⟩ (.pointer (some ⟨b, 0, none⟩))) w' := by rw [G0.out]; exact hb1
      obtain ⟨g1, g2, g3, g4, g5⟩ := G.out
      have k1 := g1.below hb2 g1.lt
      have k2 := g2.below hb2 g2.lt
      have k3 := g3.below hb2
      have k4 := g4.trans (hb2.mono g4.size)
      have k5 := own_touch g5 (Touch.of_below hb2 (fun _ => False)) (fun _ _ h => h)
      have c1 : w'.cell? ⟨w.heap.size, 0, none⟩ = some (.pointer (some ⟨b, 0, none⟩)) := k1.cell 0
      have d0 : w'.cell? ⟨b, 0, none⟩ = some (.string s) := k2.cell 0
      have d1 : ∀ (o : Obj), (w'.alloc o).cell? ⟨b, 1, none⟩ = some u := fun o => (World.cell?_alloc_lt _ _ ⟨b, 1, none⟩ k2.lt).trans (k2.cell 1)
      have hlen : k + (r.length + 1) ≤ 1000 := by
        have h1 := HN.out
        rw [Hws.out, List.length_append, ← Hk.out] at h1
        simpa using h1
      have K := Lib.hid (And.intro k1 (And.intro k2 (And.intro k3 k4)))
      clear g1 g2 g3 g4 g5 k1 k2 k3 hb1 hb2 HM G
      have hk4 := k4.size
      go_wp2_with (at_builtin; refine wpList_append_own _ rfl _ _ 33 rfl (w.heap.size + 1) 9 i0 (.string ⟨#[]⟩) 1 16 Tryd.underlying33 hi0 hz0 hz1 hz2 rfl (by decide) _ _ _ rfl (k5.alloc _) ⟨w'.heap.size, 0, none⟩ 1 1 [.string s] rfl rfl (cell_one_new _ _ _) (by intro u hu; simp at hu; subst hu; rfl) (by unfold maxLen; omega) (by omega) (by simp; omega) ?_)
      intro v' w2 ho2 hg2 _
      have kk : ∀ g t cs, Blk w' g t cs → t ≠ 9 → Blk w2 g t cs := fun g t cs h ht => (h.alloc (.cells #[.string s] 9)).grown hg2 (Ne.symm (own_blk_ne (k5.alloc (.cells #[.string s] 9)) (h.alloc (.cells #[.string s] 9)) (Ne.symm ht)))
      obtain ⟨k1, k2, k3, k4⟩ := K.out
      have q1 := kk _ _ _ k1 (by decide)
      have q2 := kk _ _ _ k2 (by decide)
      have q3 := ErrIs.keep kk k3
      have q4 : Below w.heap.size w w2 := (k4.alloc k4.size _).grown hg2 (by have := k4.size; simp; omega) (fun q hq => by have := (k5.lt q hq).1; omega)
      have c1 : w2.cell? ⟨w.heap.size, 0, none⟩ = some (.pointer (some ⟨b, 0, none⟩)) := q1.cell 0
      have d1 : w2.cell? ⟨b, 1, none⟩ = some u := q2.cell 1
      have Q := Lib.hid (And.intro q1 (And.intro q3 (And.intro q4 ho2)))
      clear kk k1 k2 k3 k4 q1 q2 q3 q4 ho2 hg2 k5 K d0
      go_wp2_with fail
      obtain ⟨q1, q3, q4, ho2⟩ := Q.out
      go_roundg r.length
      case rel => exact ⟨k + 1, r, done ++ [s], _, rfl, by rw [Hws.out]; simp, by rw [Hk.out]; simp, q3, q1, by rw [List.map_append]; exact ho2, q4⟩
      case measure => rw [Hg.out]; exact Nat.lt_succ_self _
end Go.Proofs.YtcfkhbkhejaegaaDoor.Ft
