/-
  Chapter 10 (weave): the walk of WeaveRoom.
-/
import Derived.Test.YtfoogcdpllkeoaaWvK
namespace Go.Proofs.Ytfoogcdpllkeoaa.Wv
open Go.RowKit

/-- The calls that came in: the kind, the two numbers, the word. -/
structure OpV where
  k : Int
  n : Int
  v : Int
  s : ByteArray
instance : Inhabited OpV := ⟨⟨0, 0, 0, ByteArray.empty⟩⟩
def OpsAt (w : World) (A : Option Addr) (len : Nat) (f : Nat → OpV) : Prop :=
  len = 0 ∨ ∃ b off, A = some ⟨b, off, none⟩ ∧ b < w.heap.size ∧ ∀ i, i < len → w.cell? ⟨b, off + i * 4, none⟩ = some (.int .i64 (f i).k) ∧ w.cell? ⟨b, off + i * 4 + 1, none⟩ = some (.int .i64 (f i).n) ∧
    w.cell? ⟨b, off + i * 4 + 2, none⟩ = some (.int .i64 (f i).v) ∧ w.cell? ⟨b, off + i * 4 + 3, none⟩ = some (.string (f i).s) ∧ (f i).s.size ≤ maxLen

theorem room_bad (n here : Int) (A : Option Addr) (len cap : Nat) (w : World) (hm : len ≤ maxLen) (h : n < 0 ∨ 60 < n ∨ here < 0 ∨ n < here ∨ 60 < len) :
    Calls Try.prog 13 #[.int .i64 n, .int .i64 here, .slice A len cap] w fun e w' => e = .returned (.bool true) ∧ Below w.heap.size w w' := by
  unfold maxLen at hm
  by_cases h1 : n < 0
  rotate_left
  by_cases h2 : 60 < n
  rotate_left
  by_cases h3 : here < 0
  rotate_left
  by_cases h4 : n < here
  rotate_left
  have h5 : 60 < len := by omega
  all_goals
    clear h
    go_enter Try.func13, Try.ntmps13
    go_wp2_with fail
    refine (alive_any _).mono ?_
    rintro e w1 ⟨rfl, hb⟩
    go_wp2_with fail
    go_ret
    exact ⟨rfl, hb⟩

theorem room_step {w w4 w5 : World} {B sb i n N : Nat} {a a5 : At} {s s' : St} {c : Int} {A' : Option Addr} {cap' : Nat}
    (HM : WvIs w4 B a s.M s.h s.O ∧ w4.ownsRow N 3 1 (.slice A' s.M.length cap') s.M.length (s.M.map (Value.int .i64)) ∧ ∀ k, a.blocks k → k < N)
    (hOk : OkO s) (hMl : s.M.length = n) (hOl : s.O.length ≤ i) (GG : Good s (c, s')) (hsb5 : a5.sb = sb) (H5 : WvIs w5 B a5 s'.M s'.h s'.O) (T5 : Touch w4 w5 a.blocks) (nk5 : ∀ k, a5.blocks k → a.blocks k ∨ w4.heap.size ≤ k)
    (hB4 : Below w.heap.size w w4) (hlow : ∀ k, a.blocks k → w.heap.size ≤ k) :
    (a5.sb = sb ∧ WvIs w5 B a5 s'.M s'.h s'.O ∧ OkO s' ∧ s'.M.length = n ∧ s'.O.length ≤ i + 1) ∧ (∀ k, a5.blocks k → w.heap.size ≤ k) ∧ Below w.heap.size w w5 ∧
      w5.ownsRow N 3 1 (.slice A' s.M.length cap') s.M.length (s.M.map (Value.int .i64)) ∧ (c ≠ 0 → s' = s) := by
  obtain ⟨H4, R4, lo4⟩ := HM
  obtain ⟨hb, hl⟩ := step_low hB4 T5 hlow nk5
  have h1 := GG.len
  have h2 := GG.few
  exact ⟨⟨hsb5, H5, GG.ok hOk, by simp only at h1; omega, by simp only at h2; omega⟩, hl, hb, own_touch R4 T5 (fun k hk hbk => by
    have := (own_block R4 hk).1
    have := lo4 k hbk
    omega), GG.same⟩

theorem room_next {w w5 w6 : World} {B sb i n N : Nat} {a5 : At} {s s' : St} {A' : Option Addr} {cap' : Nat}
    (ST : (a5.sb = sb ∧ WvIs w5 B a5 s'.M s'.h s'.O ∧ OkO s' ∧ s'.M.length = n ∧ s'.O.length ≤ i + 1) ∧ (∀ k, a5.blocks k → w.heap.size ≤ k) ∧ Below w.heap.size w w5 ∧
      w5.ownsRow N 3 1 (.slice A' s.M.length cap') s.M.length (s.M.map (Value.int .i64))) (hb : Below w5.heap.size w5 w6) :
    (a5.sb = sb ∧ WvIs w6 B a5 s'.M s'.h s'.O ∧ OkO s' ∧ s'.M.length = n ∧ s'.O.length ≤ i + 1) ∧ (∀ k, a5.blocks k → w.heap.size ≤ k) ∧ Below w.heap.size w w6 ∧
      w6.ownsRow N 3 1 (.slice A' s.M.length cap') s.M.length (s.M.map (Value.int .i64)) := by
  obtain ⟨⟨h1, h2, h3⟩, h4, h5, h6⟩ := ST
  exact ⟨⟨h1, h2.below hb (Nat.le_refl _), h3⟩, h4, h5.trans (hb.mono h5.size),
    own_touch (S := fun _ => False) h6 ⟨hb.os, hb.tape, hb.output, hb.size, fun k hk _ => hb.block k (by omega)⟩ (fun _ _ => id)⟩

set_option maxHeartbeats 8000000 in
set_option maxRecDepth 100000 in
theorem room_walk (n h0 : Nat) (A : Option Addr) (len cap : Nat) (f : Nat → OpV) (w : World) (hn : n ≤ 60) (hh : h0 ≤ n) (hl : len ≤ 60) (hops : OpsAt w A len f) :
    Calls Try.prog 13 #[.int .i64 n, .int .i64 h0, .slice A len cap] w fun e w' => e = .returned (.bool true) ∧ Below w.heap.size w w' := by
  obtain ⟨i0, hi, hz0, hz1, hz2⟩ := info_parts info3
  have hd1 : decide (n < h0) = false := by simp; omega
  go_enter Try.func13, Try.ntmps13
  go_wp2_with fail
  refine (alive_any _).mono ?_
  rintro e w1 ⟨rfl, hb1⟩
  go_wp2_with (at_make; refine wpList_make_full _ rfl _ _ 44 rfl w1.heap.size 3 i0 (.int .i64 0) 1 Try.underlying44 hi hz0 hz1 .i64 .i64 n n n rfl rfl rfl rfl (by rw [hz2]; omega) (by unfold maxLen; omega) (Nat.le_refl _) ?_; intro w2 ho2 hg2)
  rw [made_zero] at ho2
  have hlen : (List.replicate n (0 : Int)).length = n := by simp
  have hnew := new_any w1.heap.size (some ⟨w1.heap.size, 0, none⟩) n (List.replicate n 0) h0 w2 (by rw [hlen]; exact ho2) (by rw [hlen]; omega) h0 (by rw [hlen]; omega)
  rw [hlen] at hnew
  have HN := Lib.hid hnew
  have hb2 : Hid (Below w.heap.size w w2) := hb1.grown hg2 hb1.size (fun _ e => by cases e)
  clear hnew ho2 hg2 hb1
  refine HN.out.mono ?_
  rintro e w3 ⟨a0, rfl, H3, hb3⟩
  have Hb3 : Hid (Below w.heap.size w w3) := hb2.out.trans (hb3.mono hb2.out.size)
  have hBw : w.heap.size ≤ w2.heap.size := hb2.out.size
  have hlow : Hid (∀ k, a0.blocks k → w.heap.size ≤ k) := fun k hk => Nat.le_trans hBw (H3.low hk).1
  generalize w2.heap.size = B at *
  obtain ⟨sb, hsb⟩ : ∃ sb, sb = a0.sb := ⟨_, rfl⟩
  rw [← hsb]
  have HS := Lib.hid (And.intro hsb.symm H3)
  clear H3 hb2 hb3 HN hsb
  go_wp2_with fail
  go_loopg [8] len (fun g vi wr => ∃ (i : Nat) (s : St) (a : At), g = len - i ∧ vi = .int .i64 i ∧ i ≤ len ∧ Hid (a.sb = sb ∧ WvIs wr B a s.M s.h s.O ∧ OkO s ∧ s.M.length = n ∧ s.O.length ≤ i) ∧ Hid (∀ k, a.blocks k → w.heap.size ≤ k) ∧ Hid (Below w.heap.size w wr))
  case atStart => exact ⟨0, ⟨List.replicate n 0, h0, []⟩, a0, rfl, rfl, by omega, ⟨HS.out.1, HS.out.2, (fun p hp => by cases hp), hlen, by simp⟩, hlow, Hb3⟩
  case round =>
    obtain ⟨i, s, a, hg, rfl, hi', HS, hlow, hb⟩ := hrel
    have Hg := Lib.hid hg
    clear hg
    by_cases hlt : i < len
    · rcases hops with h0' | ⟨b, off, rfl, hbl, hcells⟩
      · omega
      obtain ⟨g0, g1, g2, g3, hws⟩ := hcells i hlt
      have hT : ∀ (j : Nat) (v : Value), w.cell? ⟨b, j, none⟩ = some v → wr.cell? ⟨b, j, none⟩ = some v := fun j v hv => (hb.out.cell (p := ⟨b, j, none⟩) hbl).trans hv
      have k0 := hT _ _ g0
      have k1 := hT _ _ g1
      have k2 := hT _ _ g2
      have k3 := hT _ _ g3
      clear g0 g1 g2 g3 hcells hT
      generalize f i = o at *
      obtain ⟨ok, on, ov, os⟩ := o
      simp only at k0 k1 k2 k3 hws
      by_cases hw60 : 60 < os.size
      · unfold maxLen at hws
        go_wp2_with fail
        go_ret
        exact ⟨rfl, hb.out⟩
      · have hw60' : os.size ≤ 60 := by omega
        obtain ⟨hsb, H, hOk, hMl, hOl⟩ := HS.out
        have FM := Lib.hid (mem_sb B sb a hsb s wr H)
        go_wp2_with fail
        refine FM.out.mono ?_
        rintro e w4 ⟨A', cap', rfl, ho4', hb4'⟩
        have H4' := H.below hb4' (Nat.le_refl _)
        have lo4 : ∀ k, a.blocks k → k < wr.heap.size := fun k hk => (H.low hk).2
        have hB4 : Hid (Below w.heap.size w w4) := hb.out.trans (hb4'.mono hb.out.size)
        have FH := Lib.hid (here_sb B sb a hsb s w4 H4')
        have FO := Lib.hid (open_sb B sb a hsb s w4 H4')
        have HM := Lib.hid (And.intro H4' (And.intro ho4' lo4))
        have k0' : w4.cell? ⟨b, off + i * 4, none⟩ = _ := (hb4'.cell (p := ⟨b, off + i * 4, none⟩) (Nat.lt_of_lt_of_le hbl hb.out.size)).trans k0
        have k1' : w4.cell? ⟨b, off + i * 4 + 1, none⟩ = _ := (hb4'.cell (p := ⟨b, off + i * 4 + 1, none⟩) (Nat.lt_of_lt_of_le hbl hb.out.size)).trans k1
        have k2' : w4.cell? ⟨b, off + i * 4 + 2, none⟩ = _ := (hb4'.cell (p := ⟨b, off + i * 4 + 2, none⟩) (Nat.lt_of_lt_of_le hbl hb.out.size)).trans k2
        have k3' : w4.cell? ⟨b, off + i * 4 + 3, none⟩ = _ := (hb4'.cell (p := ⟨b, off + i * 4 + 3, none⟩) (Nat.lt_of_lt_of_le hbl hb.out.size)).trans k3
        clear H ho4' hb4' H4' lo4 k0 k1 k2 k3 FM hb HS
        go_wp2_with fail
        refine FH.out.mono ?_
        rintro e w4' ⟨rfl, rfl⟩
        go_wp2_with fail
        refine FO.out.mono ?_
        rintro e w4' ⟨rfl, rfl⟩
        clear FH FO
        by_cases h1 : ok = 1
        · subst h1
          have FC := Lib.hid (op_sb B sb a hsb s w4 HM.out.1 on)
          have GG := Lib.hid (opR_good s on)
          generalize opR s on = r at *
          go_wp2_with fail
          refine FC.out.mono ?_
          rintro e w5 ⟨rfl, a5, hsb5, H5, T5, nk5⟩
          obtain ⟨c, s'⟩ := r
          have ST := Lib.hid (room_step HM.out hOk hMl hOl GG.out hsb5 H5 T5 nk5 hB4.out hlow.out)
          simp only
          clear FC GG hsb5 H5 T5 nk5 HM k0' k1' k2' k3' hlow hB4
          by_cases hc : c = 0
          · subst hc
            have SV := Lib.hid (And.intro ST.out.1 (And.intro ST.out.2.1 (And.intro ST.out.2.2.1 ST.out.2.2.2.1)))
            clear ST
            obtain ⟨⟨hsb5, H5, -, hMl5, -⟩, -⟩ := SV.out
            have hd2 : decide (n < s'.h) = false := by have := H5.here; simp; omega
            have FH := Lib.hid (here_sb B sb a5 hsb5 s' w5 H5)
            have FM := Lib.hid (mem_sb B sb a5 hsb5 s' w5 H5)
            clear H5 hsb5
            go_wp2_with fail
            refine FH.out.mono ?_
            rintro e w5' ⟨rfl, rfl⟩
            go_wp2_with fail
            refine FM.out.mono ?_
            rintro e w6 ⟨A6, cap6, rfl, -, hb6⟩
            have NX := Lib.hid (room_next SV.out hb6)
            clear FH FM SV hb6
            go_wp2_with fail
            go_roundg (len - (i + 1))
            case rel => exact ⟨i + 1, s', a5, rfl, by go_num, by omega, NX.out.1, NX.out.2.1, NX.out.2.2.1⟩
            case measure => have := Hg.out; omega
          · have hs : s' = s := ST.out.2.2.2.2 hc
            subst hs
            have SV := Lib.hid (And.intro ST.out.1 (And.intro ST.out.2.1 (And.intro ST.out.2.2.1 ST.out.2.2.2.1)))
            clear ST
            obtain ⟨⟨hsb5, H5, -, -, -⟩, -⟩ := SV.out
            have hd2 : decide (n < s'.h) = false := by have := H5.here; simp; omega
            have FM := Lib.hid (mem_sb B sb a5 hsb5 s' w5 H5)
            clear H5
            go_wp2_with fail
            refine FM.out.mono ?_
            rintro e w6 ⟨A6, cap6, rfl, R6, hb6⟩
            have NX := Lib.hid (room_next SV.out hb6)
            have SI := sameInts_eq _ _ _ _ _ _ s'.M w6 NX.out.2.2.2 R6 (by omega)
            rw [hMl] at SI
            have SI := Lib.hid SI
            clear FM SV hb6 R6
            go_wp2_with fail
            refine SI.out.mono ?_
            rintro e w7 ⟨rfl, q, rfl⟩
            have NY := Lib.hid (room_next NX.out (below_drewN (Below.refl _ _) q))
            clear NX SI
            obtain ⟨⟨-, H5, -, -, -⟩, -⟩ := NY.out
            have FH := Lib.hid (here_sb B sb a5 hsb5 s' _ H5)
            have FO := Lib.hid (open_sb B sb a5 hsb5 s' _ H5)
            have FM := Lib.hid (mem_sb B sb a5 hsb5 s' _ H5)
            clear H5 hsb5
            generalize w6.drewN q = w7 at *
            go_wp2_with fail
            refine FH.out.mono ?_
            rintro e w7' ⟨rfl, rfl⟩
            go_wp2_with fail
            refine FO.out.mono ?_
            rintro e w7' ⟨rfl, rfl⟩
            go_wp2_with fail
            refine FH.out.mono ?_
            rintro e w7' ⟨rfl, rfl⟩
            go_wp2_with fail
            refine FM.out.mono ?_
            rintro e w8 ⟨A8, cap8, rfl, -, hb8⟩
            have NZ := Lib.hid (room_next NY.out hb8)
            clear FH FO FM NY hb8
            go_wp2_with fail
            go_roundg (len - (i + 1))
            case rel => exact ⟨i + 1, s', a5, rfl, by go_num, by omega, NZ.out.1, NZ.out.2.1, NZ.out.2.2.1⟩
            case measure => have := Hg.out; omega
        · by_cases h2 : ok = 2
          · subst h2
            have FC := Lib.hid (arg_sb B sb a hsb s w4.drew (HM.out.1.drewN 1) on ov)
            have GG := Lib.hid (argR_good s on ov)
            generalize argR s on ov = r at *
            go_wp2_with fail
            go_region_with ((go_at_call 38; refine FC.out.mono ?_; rintro e w5 ⟨rfl, a5, hsb5, H5, T5, nk5⟩))
            all_goals
              have T5 := T5.drewN' 1
              obtain ⟨c, s'⟩ := r
              have ST := Lib.hid (room_step HM.out hOk hMl hOl GG.out hsb5 H5 T5 nk5 hB4.out hlow.out)
              simp only
              clear FC GG hsb5 H5 T5 nk5 HM k0' k1' k2' k3' hlow hB4
              by_cases hc : c = 0
              · subst hc
                have SV := Lib.hid (And.intro ST.out.1 (And.intro ST.out.2.1 (And.intro ST.out.2.2.1 ST.out.2.2.2.1)))
                clear ST
                obtain ⟨⟨hsb5, H5, -, hMl5, -⟩, -⟩ := SV.out
                have hd2 : decide (n < s'.h) = false := by have := H5.here; simp; omega
                have FH := Lib.hid (here_sb B sb a5 hsb5 s' w5 H5)
                have FM := Lib.hid (mem_sb B sb a5 hsb5 s' w5 H5)
                clear H5 hsb5
                go_wp2_with fail
                refine FH.out.mono ?_
                rintro e w5' ⟨rfl, rfl⟩
                go_wp2_with fail
                refine FM.out.mono ?_
                rintro e w6 ⟨A6, cap6, rfl, -, hb6⟩
                have NX := Lib.hid (room_next SV.out hb6)
                clear FH FM SV hb6
                go_wp2_with fail
                go_roundg (len - (i + 1))
                case rel => exact ⟨i + 1, s', a5, rfl, by go_num, by omega, NX.out.1, NX.out.2.1, NX.out.2.2.1⟩
                case measure => have := Hg.out; omega
              · have hs : s' = s := ST.out.2.2.2.2 hc
                subst hs
                have SV := Lib.hid (And.intro ST.out.1 (And.intro ST.out.2.1 (And.intro ST.out.2.2.1 ST.out.2.2.2.1)))
                clear ST
                obtain ⟨⟨hsb5, H5, -, -, -⟩, -⟩ := SV.out
                have hd2 : decide (n < s'.h) = false := by have := H5.here; simp; omega
                have FM := Lib.hid (mem_sb B sb a5 hsb5 s' w5 H5)
                clear H5
                go_wp2_with fail
                refine FM.out.mono ?_
                rintro e w6 ⟨A6, cap6, rfl, R6, hb6⟩
                have NX := Lib.hid (room_next SV.out hb6)
                have SI := sameInts_eq _ _ _ _ _ _ s'.M w6 NX.out.2.2.2 R6 (by omega)
                rw [hMl] at SI
                have SI := Lib.hid SI
                clear FM SV hb6 R6
                go_wp2_with fail
                refine SI.out.mono ?_
                rintro e w7 ⟨rfl, q, rfl⟩
                have NY := Lib.hid (room_next NX.out (below_drewN (Below.refl _ _) q))
                clear NX SI
                obtain ⟨⟨-, H5, -, -, -⟩, -⟩ := NY.out
                have FH := Lib.hid (here_sb B sb a5 hsb5 s' _ H5)
                have FO := Lib.hid (open_sb B sb a5 hsb5 s' _ H5)
                have FM := Lib.hid (mem_sb B sb a5 hsb5 s' _ H5)
                clear H5 hsb5
                generalize w6.drewN q = w7 at *
                go_wp2_with fail
                refine FH.out.mono ?_
                rintro e w7' ⟨rfl, rfl⟩
                go_wp2_with fail
                refine FO.out.mono ?_
                rintro e w7' ⟨rfl, rfl⟩
                go_wp2_with fail
                refine FH.out.mono ?_
                rintro e w7' ⟨rfl, rfl⟩
                go_wp2_with fail
                refine FM.out.mono ?_
                rintro e w8 ⟨A8, cap8, rfl, -, hb8⟩
                have NZ := Lib.hid (room_next NY.out hb8)
                clear FH FO FM NY hb8
                go_wp2_with fail
                go_roundg (len - (i + 1))
                case rel => exact ⟨i + 1, s', a5, rfl, by go_num, by omega, NZ.out.1, NZ.out.2.1, NZ.out.2.2.1⟩
                case measure => have := Hg.out; omega
          · by_cases h3 : ok = 3
            · subst h3
              have FC := Lib.hid (call_sb B sb a hsb s w4 HM.out.1 on)
              have GG := Lib.hid (callR_good s on)
              generalize callR s on = r at *
              go_wp2_with fail
              refine FC.out.mono ?_
              rintro e w5 ⟨rfl, a5, hsb5, H5, T5, nk5⟩
              obtain ⟨c, s'⟩ := r
              have ST := Lib.hid (room_step HM.out hOk hMl hOl GG.out hsb5 H5 T5 nk5 hB4.out hlow.out)
              simp only
              clear FC GG hsb5 H5 T5 nk5 HM k0' k1' k2' k3' hlow hB4
              by_cases hc : c = 0
              · subst hc
                have SV := Lib.hid (And.intro ST.out.1 (And.intro ST.out.2.1 (And.intro ST.out.2.2.1 ST.out.2.2.2.1)))
                clear ST
                obtain ⟨⟨hsb5, H5, -, hMl5, -⟩, -⟩ := SV.out
                have hd2 : decide (n < s'.h) = false := by have := H5.here; simp; omega
                have FH := Lib.hid (here_sb B sb a5 hsb5 s' w5 H5)
                have FM := Lib.hid (mem_sb B sb a5 hsb5 s' w5 H5)
                clear H5 hsb5
                go_wp2_with fail
                refine FH.out.mono ?_
                rintro e w5' ⟨rfl, rfl⟩
                go_wp2_with fail
                refine FM.out.mono ?_
                rintro e w6 ⟨A6, cap6, rfl, -, hb6⟩
                have NX := Lib.hid (room_next SV.out hb6)
                clear FH FM SV hb6
                go_wp2_with fail
                go_roundg (len - (i + 1))
                case rel => exact ⟨i + 1, s', a5, rfl, by go_num, by omega, NX.out.1, NX.out.2.1, NX.out.2.2.1⟩
                case measure => have := Hg.out; omega
              · have hs : s' = s := ST.out.2.2.2.2 hc
                subst hs
                have SV := Lib.hid (And.intro ST.out.1 (And.intro ST.out.2.1 (And.intro ST.out.2.2.1 ST.out.2.2.2.1)))
                clear ST
                obtain ⟨⟨hsb5, H5, -, -, -⟩, -⟩ := SV.out
                have hd2 : decide (n < s'.h) = false := by have := H5.here; simp; omega
                have FM := Lib.hid (mem_sb B sb a5 hsb5 s' w5 H5)
                clear H5
                go_wp2_with fail
                refine FM.out.mono ?_
                rintro e w6 ⟨A6, cap6, rfl, R6, hb6⟩
                have NX := Lib.hid (room_next SV.out hb6)
                have SI := sameInts_eq _ _ _ _ _ _ s'.M w6 NX.out.2.2.2 R6 (by omega)
                rw [hMl] at SI
                have SI := Lib.hid SI
                clear FM SV hb6 R6
                go_wp2_with fail
                refine SI.out.mono ?_
                rintro e w7 ⟨rfl, q, rfl⟩
                have NY := Lib.hid (room_next NX.out (below_drewN (Below.refl _ _) q))
                clear NX SI
                obtain ⟨⟨-, H5, -, -, -⟩, -⟩ := NY.out
                have FH := Lib.hid (here_sb B sb a5 hsb5 s' _ H5)
                have FO := Lib.hid (open_sb B sb a5 hsb5 s' _ H5)
                have FM := Lib.hid (mem_sb B sb a5 hsb5 s' _ H5)
                clear H5 hsb5
                generalize w6.drewN q = w7 at *
                go_wp2_with fail
                refine FH.out.mono ?_
                rintro e w7' ⟨rfl, rfl⟩
                go_wp2_with fail
                refine FO.out.mono ?_
                rintro e w7' ⟨rfl, rfl⟩
                go_wp2_with fail
                refine FH.out.mono ?_
                rintro e w7' ⟨rfl, rfl⟩
                go_wp2_with fail
                refine FM.out.mono ?_
                rintro e w8 ⟨A8, cap8, rfl, -, hb8⟩
                have NZ := Lib.hid (room_next NY.out hb8)
                clear FH FO FM NY hb8
                go_wp2_with fail
                go_roundg (len - (i + 1))
                case rel => exact ⟨i + 1, s', a5, rfl, by go_num, by omega, NZ.out.1, NZ.out.2.1, NZ.out.2.2.1⟩
                case measure => have := Hg.out; omega
            · have hlen60 : s.O.length < 4900 := by omega
              have FC := Lib.hid (form_sb B sb a hsb s w4 HM.out.1 hOk hlen60 os (by omega) _ rfl)
              generalize (⟨(ups os).toArray⟩ : ByteArray) = W at *
              have GG := Lib.hid (formR_good s W)
              generalize formR s W = r at *
              go_wp2_with fail
              refine FC.out.mono ?_
              rintro e w5 ⟨rfl, a5, hsb5, H5, T5, nk5⟩
              obtain ⟨c, s'⟩ := r
              have ST := Lib.hid (room_step HM.out hOk hMl hOl GG.out hsb5 H5 T5 nk5 hB4.out hlow.out)
              simp only
              clear FC GG hsb5 H5 T5 nk5 HM k0' k1' k2' k3' hlow hB4
              by_cases hc : c = 0
              · subst hc
                have SV := Lib.hid (And.intro ST.out.1 (And.intro ST.out.2.1 (And.intro ST.out.2.2.1 ST.out.2.2.2.1)))
                clear ST
                obtain ⟨⟨hsb5, H5, -, hMl5, -⟩, -⟩ := SV.out
                have hd2 : decide (n < s'.h) = false := by have := H5.here; simp; omega
                have FH := Lib.hid (here_sb B sb a5 hsb5 s' w5 H5)
                have FM := Lib.hid (mem_sb B sb a5 hsb5 s' w5 H5)
                clear H5 hsb5
                go_wp2_with fail
                refine FH.out.mono ?_
                rintro e w5' ⟨rfl, rfl⟩
                go_wp2_with fail
                refine FM.out.mono ?_
                rintro e w6 ⟨A6, cap6, rfl, -, hb6⟩
                have NX := Lib.hid (room_next SV.out hb6)
                clear FH FM SV hb6
                go_wp2_with fail
                go_roundg (len - (i + 1))
                case rel => exact ⟨i + 1, s', a5, rfl, by go_num, by omega, NX.out.1, NX.out.2.1, NX.out.2.2.1⟩
                case measure => have := Hg.out; omega
              · have hs : s' = s := ST.out.2.2.2.2 hc
                subst hs
                have SV := Lib.hid (And.intro ST.out.1 (And.intro ST.out.2.1 (And.intro ST.out.2.2.1 ST.out.2.2.2.1)))
                clear ST
                obtain ⟨⟨hsb5, H5, -, -, -⟩, -⟩ := SV.out
                have hd2 : decide (n < s'.h) = false := by have := H5.here; simp; omega
                have FM := Lib.hid (mem_sb B sb a5 hsb5 s' w5 H5)
                clear H5
                go_wp2_with fail
                refine FM.out.mono ?_
                rintro e w6 ⟨A6, cap6, rfl, R6, hb6⟩
                have NX := Lib.hid (room_next SV.out hb6)
                have SI := sameInts_eq _ _ _ _ _ _ s'.M w6 NX.out.2.2.2 R6 (by omega)
                rw [hMl] at SI
                have SI := Lib.hid SI
                clear FM SV hb6 R6
                go_wp2_with fail
                refine SI.out.mono ?_
                rintro e w7 ⟨rfl, q, rfl⟩
                have NY := Lib.hid (room_next NX.out (below_drewN (Below.refl _ _) q))
                clear NX SI
                obtain ⟨⟨-, H5, -, -, -⟩, -⟩ := NY.out
                have FH := Lib.hid (here_sb B sb a5 hsb5 s' _ H5)
                have FO := Lib.hid (open_sb B sb a5 hsb5 s' _ H5)
                have FM := Lib.hid (mem_sb B sb a5 hsb5 s' _ H5)
                clear H5 hsb5
                generalize w6.drewN q = w7 at *
                go_wp2_with fail
                refine FH.out.mono ?_
                rintro e w7' ⟨rfl, rfl⟩
                go_wp2_with fail
                refine FO.out.mono ?_
                rintro e w7' ⟨rfl, rfl⟩
                go_wp2_with fail
                refine FH.out.mono ?_
                rintro e w7' ⟨rfl, rfl⟩
                go_wp2_with fail
                refine FM.out.mono ?_
                rintro e w8 ⟨A8, cap8, rfl, -, hb8⟩
                have NZ := Lib.hid (room_next NY.out hb8)
                clear FH FO FM NY hb8
                go_wp2_with fail
                go_roundg (len - (i + 1))
                case rel => exact ⟨i + 1, s', a5, rfl, by go_num, by omega, NZ.out.1, NZ.out.2.1, NZ.out.2.2.1⟩
                case measure => have := Hg.out; omega
    · go_wp2_with fail
      go_ret
      exact ⟨rfl, hb.out⟩

end Go.Proofs.Ytfoogcdpllkeoaa.Wv
