/-
  hollowaybook: lists of a kind (Ints) that are kept, marked, grown. (Printed by genbook.py.)
-/
import Derived.Test.YtoaidcjjjoafjaaGreatDoorRows
import Derived.Test.YtoaidcjjjoafjaaGreatDoorBk
import Derived.WalkKit
import Derived.WalkSmall
import Derived.BigQuiet
import Derived.Deep.LoopGhost
import Derived.Deep.DeepCutAuto
import Derived.Deep.CutBlock
import Derived.Deep.RegionLaw
import Derived.Deep.RegionWith
import Derived.Deep.RegionHeld3
namespace Go.Proofs.YtoaidcjjjoafjaaGreatDoor.BkI
open Go.RowKit Bk

theorem infoE : (Tryz.prog.info? 3).map (fun i => (i.zero, i.size, i.bytes)) = some (some (.int .i64 0), 1, 8) := by kernel_rfl
theorem infoS : (Tryz.prog.info? 24).map (fun i => (i.zero, i.size, i.bytes)) = some (some (.slice none 0 0), 1, 24) := by kernel_rfl

def IsE (u : Value) : Prop := ∃ x : Int, u = .int .i64 x
theorem IsE.one {u : Value} (h : IsE u) : u.oneCell' = true := by obtain ⟨x, rfl⟩ := h; rfl
def mkE (i k : Nat) : Value := .int .i64 (-1000000 * (i : Int) - (k : Int) - 7)
theorem mkE_is (i k : Nat) : IsE (mkE i k) := ⟨_, rfl⟩
def mk (i fr n : Nat) : List Value := (List.range n).map fun k => mkE i (fr + k)
theorem mk_length (i fr n : Nat) : (mk i fr n).length = n := by simp [mk]
theorem mk_zero (i fr : Nat) : mk i fr 0 = [] := rfl
theorem mk_succ (i fr n : Nat) : mk i fr (n + 1) = mk i fr n ++ [mkE i (fr + n)] := by simp [mk, List.range_succ]
theorem mk_app (i n m : Nat) : mk i 0 n ++ mk i n m = mk i 0 (n + m) := by
  induction m with
  | zero => simp [mk_zero]
  | succ m ih => rw [mk_succ, ← List.append_assoc, ih, ← Nat.add_assoc, mk_succ]; simp
theorem mk_get (i fr n k : Nat) (h : k < n) : (mk i fr n)[k]? = some (mkE i (fr + k)) := by simp [mk, h]
theorem mk_is (i fr n : Nat) : ∀ u ∈ mk i fr n, IsE u := by
  intro u hu
  simp [mk] at hu
  obtain ⟨k, _, rfl⟩ := hu
  exact mkE_is _ _
theorem mk_one (i fr n : Nat) : ∀ u ∈ mk i fr n, u.oneCell' = true := fun u hu => (mk_is i fr n u hu).one
theorem one_of {x : Value} (h : IsE x) : ∀ u ∈ [x], u.oneCell' = true := by intro u hu; simp at hu; subst hu; exact h.one

set_option maxHeartbeats 1000000 in
set_option maxRecDepth 100000 in
theorem mark_any (i fr n : Nat) (hi : i ≤ 1000) (hf : fr ≤ 150000) (hn : n ≤ 150000) (w : World) :
    Calls Tryz.prog 89 #[.int .i64 i, .int .i64 fr, .int .i64 n] w fun e w' => ∃ v, e = .returned v ∧ Own w' w.heap.size 3 v (mk i fr n) ∧ Below w.heap.size w w' := by
  obtain ⟨i0, hi0, hz0, hz1, hz2⟩ := info_parts infoE
  have hres : ∀ (v : Value) (w' : World), w'.ownsRow w.heap.size 3 1 v n (mk i fr n) → Own w' w.heap.size 3 v (mk i fr n) := fun _ _ h => by unfold Own; rw [mk_length]; exact h
  have Hres := Lib.hid hres
  clear hres
  go_enter Tryz.func89, Tryz.ntmps89
  go_wp2
  go_loopg [7, 8] n (fun g va vk wr => ∃ j : Nat, g = n - j ∧ vk = .int .i64 ((fr + j : Nat) : Int) ∧ j ≤ n ∧ Hid (wr.ownsRow w.heap.size 3 1 va j (mk i fr j)) ∧ Hid (Below w.heap.size w wr))
  case atStart => exact ⟨0, rfl, rfl, by omega, World.ownsRow_nil _ _ _ _, Below.refl _ _⟩
  case round =>
    obtain ⟨j, hg, rfl, hj, ho, hb⟩ := hrel
    have Hg := Lib.hid hg
    clear hg
    by_cases hlt : j < n
    · obtain ⟨A, c, rfl⟩ := own_slice ho.out
      go_wp2_with (at_builtin; refine wpList_append_own _ rfl _ _ 24 rfl w.heap.size 3 i0 (.int .i64 0) 1 8 Tryz.underlying24 hi0 hz0 hz1 hz2 rfl (by decide) _ _ _ rfl (ho.out.alloc _) ⟨wr.heap.size, 0, none⟩ 1 1 [.int .i64 (-1000000 * (i : Int) - ((fr : Int) + (j : Int)) - 7)] rfl rfl (cell_one_new _ _ _) (one_of ⟨_, rfl⟩) (by unfold maxLen; omega) (by omega) (by have := hb.out.size; simp; omega) ?_)
      intro v' w2 ho2 hg2 _
      have HO : Hid (w2.ownsRow w.heap.size 3 1 v' (j + 1) (mk i fr (j + 1))) := by
        rw [mk_succ]
        exact ho2
      have HB : Hid (Below w.heap.size w w2) := (hb.out.alloc hb.out.size _).grown hg2 (by have := hb.out.size; simp; omega) (fun k hk => (ho.out.lt k hk).1)
      clear ho ho2 hg2 hb
      go_wp2
      go_roundg (n - (j + 1))
      case rel => exact ⟨j + 1, rfl, by go_num, by omega, HO, HB⟩
      case measure => have := Hg.out; omega
    · obtain rfl : j = n := by omega
      go_wp2
      go_ret
      exact ⟨_, rfl, Hres.out _ _ ho.out, hb.out⟩

set_option maxRecDepth 100000 in
theorem same_any (B1 B2 c1 c2 : Nat) (A1 A2 : Option Addr) (L : List Value) (w : World) (h1 : Reads w B1 1 A1 L.length L) (h2 : Reads w B2 1 A2 L.length L) (hE : ∀ u ∈ L, IsE u) (hs : L.length ≤ 300000) :
    Calls Tryz.prog 20 #[.slice A1 L.length c1, .slice A2 L.length c2] w fun e w' => e = .returned (.bool true) ∧ ∃ q, w' = w.drewN q := by
  have H1 := Lib.hid h1
  have H2 := Lib.hid h2
  clear h1 h2
  go_enter Tryz.func20, Tryz.ntmps20
  go_wp2
  go_loopg [5] L.length (fun g v wr => ∃ (j q : Nat), g = L.length - j ∧ v = .int .i64 j ∧ j ≤ L.length ∧ wr = w.drewN q)
  case atStart => exact ⟨0, 0, rfl, rfl, by omega, rfl⟩
  case round =>
    obtain ⟨j, q, hg, rfl, hj, rfl⟩ := hrel
    have Hg := Lib.hid hg
    clear hg
    by_cases hlt : j < L.length
    · obtain ⟨a1, u1, rfl, _, x1, e1⟩ := H1.out.at_ hlt
      obtain ⟨a2, u2, rfl, _, x2, e2⟩ := H2.out.at_ hlt
      obtain rfl : u1 = u2 := by rw [x1] at x2; injection x2
      obtain ⟨x, rfl⟩ : IsE u1 := hE _ (List.mem_of_getElem? x1)
      have hlt' : (j : Int) < (L.length : Int) := by omega
      clear x1 x2 hE
      go_wp2_with fail
      go_quiet (fail)
      go_wp2
      go_roundg (L.length - (j + 1))
      case rel => exact ⟨j + 1, _, rfl, by go_num, by omega, rfl⟩
      case measure => rw [Hg.out]; exact Nat.sub_lt_sub_left hlt (Nat.lt_succ_self j)
    · go_wp2
      go_ret
      exact ⟨rfl, _, rfl⟩

section
variable (b : Nat) (cs : Array Value) (v v' : Value) (n B : Nat) (R R' : Nat → Value) (L : Nat → List Value) (w : World)

set_option maxHeartbeats 1000000 in
set_option maxRecDepth 100000 in
theorem still_any (hB : Blk w b 40 cs) (hv : cs[2]? = some v) (hv' : cs[3]? = some v') (H : Rws w B 3 24 v n R L) (H' : Rws w B 3 24 v' n R' L) (hn : n ≤ 1000)
    (hL : ∀ i, i < n → (L i).length ≤ 100000) (hE : ∀ i, i < n → ∀ u ∈ L i, IsE u) :
    Calls Tryz.prog 53 #[.pointer (some ⟨b, 0, none⟩)] w fun e w' => e = .returned (.bool true) ∧ ∃ q, w' = w.drewN q := by
  have f1 : w.cell? ⟨b, 2, none⟩ = some v := (hB.cell 2).trans hv
  have f2 : w.cell? ⟨b, 3, none⟩ = some v' := (hB.cell 3).trans hv'
  obtain ⟨A, c, rfl⟩ := own_slice H.out
  obtain ⟨A', c', rfl⟩ := own_slice H'.out
  have HH := Lib.hid H
  have HH' := Lib.hid H'
  have HL := Lib.hid hL
  have HE := Lib.hid hE
  clear H H' hL hE hB hv hv'
  go_enter Tryz.func53, Tryz.ntmps53
  go_wp2_with fail
  go_loopg [3] n (fun g vi wr => ∃ i q : Nat, g = n - i ∧ vi = .int .i64 i ∧ i ≤ n ∧ wr = w.drewN q)
  case atStart => exact ⟨0, 0, rfl, rfl, by omega, rfl⟩
  case round =>
    obtain ⟨i, q, hg, rfl, hi, rfl⟩ := hrel
    have Hg := Lib.hid hg
    clear hg
    by_cases hlt : i < n
    · obtain ⟨g1, c1, hv1, e1, _⟩ := HH.out.cell hlt
      obtain ⟨g2, c2, hv2, e2, _⟩ := HH'.out.cell hlt
      injection hv1 with hA1 _ hc1
      injection hv2 with hA2 _ hc2
      subst hA1 hA2 hc1 hc2
      obtain ⟨A1, k1, hR1, r1⟩ := (HH.out.inn i hlt).reads
      obtain ⟨A2, k2, hR2, r2⟩ := (HH'.out.inn i hlt).reads
      rw [hR1] at e1
      rw [hR2] at e2
      have hq := fun m => quiet_add (a := q) (n := m) (same_any _ _ k1 k2 A1 A2 (L i) (w.drewN (q + m)) (r1.drewN _) (r2.drewN _) (HE.out i hlt) (by have := HL.out i hlt; omega))
      have HQ := Lib.hid hq
      have hlt' : (i : Int) < (n : Int) := by omega
      clear hq r1 r2 hR1 hR2
      generalize (L i).length = len at *
      go_wp2_with fail
      go_quiet ((go_at_call 20; exact HQ.out _))
      go_wp2_with fail
      go_roundg (n - (i + 1))
      case rel => exact ⟨i + 1, _, rfl, by go_num, by omega, rfl⟩
      case measure => rw [Hg.out]; exact Nat.sub_lt_sub_left hlt (Nat.lt_succ_self i)
    · go_wp2_with fail
      go_ret
      exact ⟨rfl, _, rfl⟩

set_option maxHeartbeats 1000000 in
set_option maxRecDepth 100000 in
theorem put_any (hB : Blk w b 40 cs) (hBw : B ≤ w.heap.size) (hv : cs[2]? = some v) (H : Rws w B 3 24 v n R L) (hn : n ≤ 1000) (hL : ∀ i, i < n → (L i).length ≤ 100000) :
    Calls Tryz.prog 60 #[.pointer (some ⟨b, 0, none⟩)] w fun e w' => e = .returned (.tuple #[]) ∧ Rws w' B 3 24 v n R (fun i => mk i 0 (L i).length) ∧ Blk w' b 40 cs ∧ Below B w w' := by
  have f1 : w.cell? ⟨b, 2, none⟩ = some v := (hB.cell 2).trans hv
  obtain ⟨A, c, rfl⟩ := own_slice H.out
  have HL := Lib.hid hL
  have HH := Lib.hid H
  have HB := Lib.hid hB
  have Hv := Lib.hid hv
  clear H hL hB hv
  go_enter Tryz.func60, Tryz.ntmps60
  go_wp2_with fail
  go_loopg [2, 3, 4] n (fun g vi _ _ wr => ∃ (i : Nat) (Lc : Nat → List Value), g = n - i ∧ vi = .int .i64 i ∧ i ≤ n ∧ Hid (Rws wr B 3 24 (.slice A n c) n R Lc) ∧ Hid (∀ j, (Lc j).length = (L j).length) ∧ Hid (∀ j, j < i → Lc j = mk j 0 (L j).length) ∧ Hid (Blk wr b 40 cs) ∧ Hid (Below B w wr))
  case atStart => exact ⟨0, L, rfl, rfl, by omega, HH, fun _ => rfl, fun j hj => absurd hj (Nat.not_lt_zero j), HB, Below.refl _ _⟩
  case round =>
    obtain ⟨i, Lc, hg, rfl, hi, HR, HN, HM, HK, HW⟩ := hrel
    have Hg := Lib.hid hg
    clear hg HH
    have f2 : wr.cell? ⟨b, 2, none⟩ = some (.slice A n c) := (HK.out.cell 2).trans Hv.out
    by_cases hlt : i < n
    · obtain ⟨g1, c1, hv1, e1, _⟩ := HR.out.cell hlt
      injection hv1 with hA1 _ hc1
      subst hA1 hc1
      obtain ⟨A1, k1, hR1, r1⟩ := (HR.out.inn i hlt).reads
      rw [hR1] at e1
      have hlen : (Lc i).length ≤ 100000 := by rw [HN.out]; exact HL.out i hlt
      have HR1 := Lib.hid hR1
      have hlt' : (i : Int) < (n : Int) := by omega
      clear hR1 r1
      obtain ⟨len, hlenE⟩ : ∃ len, len = (Lc i).length := ⟨_, rfl⟩
      rw [← hlenE] at e1 hlen
      have HlenE := Lib.hid hlenE
      have HN2 : Hid ((Lc i).length = (L i).length) := HN.out i
      clear hlenE
      go_wp2_with fail
      refine (mark_any i 0 len (by omega) (by omega) (by omega) _).mono ?_
      rintro e w2 ⟨vm, rfl, hm, hb2⟩
      obtain ⟨Am, cm, hvm, rm⟩ := hm.reads
      rw [mk_length] at hvm rm
      subst hvm
      have hB1 : B ≤ wr.heap.size := Nat.le_trans hBw HW.out.size
      have HR2 := Lib.hid (HR.out.below hb2)
      have HW2 := Lib.hid (HW.out.trans (hb2.mono hB1))
      have HK2 := Lib.hid (HK.out.below hb2 HK.out.lt)
      have Hm := Lib.hid hm
      have hb12 : wr.heap.size ≤ w2.heap.size := hb2.size
      have HRz : Hid (∀ q, (R i).ownBlock = some q → q < wr.heap.size) := fun q hq => ((HR.out.inn i hlt).lt hq).2
      clear hb2 rm hm HR HW HK f2 e1
      obtain ⟨z, hz⟩ : ∃ z, z = wr.heap.size := ⟨_, rfl⟩
      rw [← hz] at Hm hb12 hB1 HRz
      clear hz
      go_wp2_with fail
      go_loopg [4] len (fun g vk wk => ∃ (k : Nat) (Ld : Nat → List Value), g = len - k ∧ vk = .int .i64 k ∧ k ≤ len ∧ Hid (Rws wk B 3 24 (.slice (some ⟨g1, 0, none⟩) n c) n R Ld) ∧ Hid (∀ j, (Ld j).length = (L j).length) ∧ Hid (∀ j, j < i → Ld j = mk j 0 (L j).length) ∧ Hid (∀ t, t < k → (Ld i)[t]? = some (mkE i t)) ∧ Hid (Own wk z 3 (.slice Am len cm) (mk i 0 len)) ∧ Hid (Blk wk b 40 cs) ∧ Hid (Below B w wk))
      case atStart => exact ⟨0, Lc, rfl, rfl, by omega, HR2, HN, HM, fun t ht => absurd ht (Nat.not_lt_zero t), Hm, HK2, HW2⟩
      case round =>
        obtain ⟨k, Ld, hg, rfl, hk, HD, HE, HF, HT, HO, HK3, HW3⟩ := hrel
        have Hg2 := Lib.hid hg
        clear hg HR2 HN HM Hm HW2 HK2
        have f3 : wr.cell? ⟨b, 2, none⟩ = some (.slice (some ⟨g1, 0, none⟩) n c) := (HK3.out.cell 2).trans Hv.out
        by_cases hkl : k < len
        · have hlen2 : (Ld i).length = len := by rw [HE.out, HlenE.out, HN2.out]
          obtain ⟨x, hx⟩ := mkE_is i k
          obtain ⟨g2, c2, hR2, ⟨old, o2⟩, fz2, hgr, hBg, hgl, HRn⟩ := HD.out.store (by decide) hlt (j := k) (by omega) (mkE i k)
          rw [hlen2] at hR2
          obtain ⟨g3, c3, hv3, e3, _⟩ := HD.out.cell hlt
          injection hv3 with hA3 _ hc3
          injection hA3 with hA3
          injection hA3 with hA3
          subst hA3 hc3
          rw [hR2] at e3
          obtain ⟨g4, c4, hv4, e4, _⟩ := own_cell HO.out (j := k) (by rw [mk_length]; exact hkl)
          rw [mk_length] at hv4
          injection hv4 with hA4 _ hc4
          subst hA4 hc4
          rw [mk_get _ _ _ _ hkl, Nat.zero_add, hx] at e4
          rw [hx] at HRn hgr
          have hz4 : z ≤ g4 := (HO.out.lt (k := g4) rfl).1
          have hg24 : g2 ≠ g4 := by have := HRz.out g2 (by rw [hR2]; rfl); omega
          have HK4 : Hid (Blk (wr.setCell ⟨g2, k, none⟩ (.int .i64 x)) b 40 cs) := HK3.out.far (p := ⟨g2, k, none⟩) (fun e => own_blk_ne (HD.out.inn i hlt) HK3.out (by decide) (by rw [hR2, e]; rfl)) _
          have HRn := Lib.hid HRn
          have HO2 : Hid (Own (wr.setCell ⟨g2, k, none⟩ (.int .i64 x)) z 3 (.slice (some ⟨g4, 0, none⟩) len cm) (mk i 0 len)) := HO.out.grown hgr (fun q hq e => by cases hq; exact hg24 (Option.some.inj e))
          have HW4 : Hid (Below B w (wr.setCell ⟨g2, k, none⟩ (.int .i64 x))) := HW3.out.setCell (p := ⟨g2, k, none⟩) hBg _
          have hk' : (k : Int) < (len : Int) := by omega
          have hi' : (i : Int) < (n : Int) := by omega
          clear hgr
          go_wp2_with fail
          go_region
          all_goals
            go_wp2_with fail
            go_roundg (len - (k + 1))
            case rel =>
              refine ⟨k + 1, _, rfl, by go_num, by omega, HRn.out.drew, fun j => ?_, fun j hj => ?_, fun t ht => ?_, HO2, HK4.out.drew, below_of_draw HW4.out 1⟩
              · show (if j = i then (Ld i).set k (.int .i64 x) else Ld j).length = (L j).length
                split
                · rename_i h; rw [h, List.length_set]; exact HE.out i
                · exact HE.out j
              · show (if j = i then (Ld i).set k (.int .i64 x) else Ld j) = mk j 0 (L j).length
                rw [if_neg (by omega)]
                exact HF.out j hj
              · show (if i = i then (Ld i).set k (.int .i64 x) else Ld i)[t]? = some (mkE i t)
                rw [if_pos rfl, List.getElem?_set]
                by_cases htk : k = t
                · subst htk
                  rw [if_pos rfl, if_pos (by omega), hx]
                · rw [if_neg htk]
                  exact HT.out t (by omega)
            case measure => have := Hg2.out; omega
        · obtain rfl : k = len := by omega
          have hDi : Ld i = mk i 0 (L i).length := by
            apply List.ext_getElem?
            intro t
            have hl1 : (Ld i).length = k := by rw [HE.out, HlenE.out, HN2.out]
            by_cases htk : t < k
            · rw [HT.out t htk, mk_get _ _ _ _ (by rw [← HE.out, hl1]; exact htk), Nat.zero_add]
            · rw [List.getElem?_eq_none (by omega), List.getElem?_eq_none (by rw [mk_length, ← HE.out]; omega)]
          go_wp2_with fail
          go_roundg (n - (i + 1))
          case rel =>
            refine ⟨i + 1, Ld, rfl, by go_num, by omega, HD, HE, fun j hj => ?_, HK3, HW3⟩
            by_cases hji : j = i
            · subst hji; exact hDi
            · exact HF.out j (by omega)
          case measure => have := Hg.out; omega
    · obtain rfl : i = n := by omega
      go_wp2_with fail
      go_end0
      refine ⟨rfl, ⟨HR.out.out, fun j hj => ?_, HR.out.far⟩, HK.out, HW.out⟩
      have := HR.out.inn j hj
      rw [HM.out j hj] at this
      exact this

set_option maxHeartbeats 1000000 in
set_option maxRecDepth 100000 in
theorem grow_any (hB : Blk w b 40 cs) (hBw : B ≤ w.heap.size) (hv : cs[2]? = some v) (H : Rws w B 3 24 v n R L) (hn : n ≤ 1000) (hL : ∀ i, i < n → (L i).length ≤ 100000) (hM : ∀ i, i < n → L i = mk i 0 (L i).length) :
    Calls Tryz.prog 65 #[.pointer (some ⟨b, 0, none⟩)] w fun e w' => ∃ vo Rg, e = .returned vo ∧ Rws w' B 3 24 vo n Rg (fun i => mk i 0 ((L i).length + 72)) ∧ Rws w' B 3 24 v n R L ∧ Blk w' b 40 cs ∧ Below B w w' := by
  obtain ⟨i0, hi0, hz0, hz1, hz2⟩ := info_parts infoE
  obtain ⟨i1, hi1, hy0, hy1, hy2⟩ := info_parts infoS
  have f1 : w.cell? ⟨b, 2, none⟩ = some v := (hB.cell 2).trans hv
  obtain ⟨A, c, rfl⟩ := own_slice H.out
  have HL := Lib.hid hL
  have HM := Lib.hid hM
  have HH := Lib.hid H
  have HB := Lib.hid hB
  have Hv := Lib.hid hv
  clear H hL hM hB hv
  go_enter Tryz.func65, Tryz.ntmps65
  go_wp2_with fail
  go_loopg [3, 4, 5, 6] n (fun g vo vi _ _ wr => ∃ (i : Nat) (Rg : Nat → Value), g = n - i ∧ vi = .int .i64 i ∧ i ≤ n ∧ Hid (Rws wr B 3 24 vo i Rg (fun j => mk j 0 ((L j).length + 72))) ∧ Hid (Rws wr B 3 24 (.slice A n c) n R L) ∧ Hid (∀ j q, j < i → q < n → q ≠ j → Far (Rg j) (R q)) ∧ Hid (Far vo (.slice A n c)) ∧ Hid (Blk wr b 40 cs) ∧ Hid (Below B w wr))
  case atStart => exact ⟨0, R, rfl, rfl, by omega, Rws.nil _ _ _ _ _ _, HH, fun j q hj => absurd hj (Nat.not_lt_zero j), fun k hk => by simp [Value.ownBlock] at hk, HB, Below.refl _ _⟩
  case round =>
    obtain ⟨i, Rg, hg, rfl, hi, HG, HR, HF, HV, HK, HW⟩ := hrel
    have Hg := Lib.hid hg
    clear hg HH
    have f2 : wr.cell? ⟨b, 2, none⟩ = some (.slice A n c) := (HK.out.cell 2).trans Hv.out
    obtain ⟨Ao, co, rfl⟩ := own_slice HG.out.out
    by_cases hlt : i < n
    · obtain ⟨g1, c1, hv1, e1, _⟩ := HR.out.cell hlt
      injection hv1 with hA1 _ hc1
      subst hA1 hc1
      have hlen := HL.out i hlt
      have hO := HR.out.inn i hlt
      have hF0 : ∀ q, q < n → q ≠ i → Far (R i) (R q) := fun q hq hqi => HR.out.far i q hlt hq (fun e => hqi e.symm)
      have hF1 : ∀ j, j < i → Far (Rg j) (R i) := fun j hj => HF.out j i hj hlt (by omega)
      generalize hRi : R i = lv at e1 hO hF0 hF1
      rw [HM.out i hlt] at hO
      have HRi := Lib.hid hRi
      obtain ⟨len, hlenE⟩ : ∃ len, len = (L i).length := ⟨_, rfl⟩
      rw [← hlenE] at hO hlen
      have HlenE := Lib.hid hlenE
      have HO0 : Hid (Own wr B 3 lv (mk i 0 (len + 0))) := hO
      have HF0 := Lib.hid hF0
      have HF1 := Lib.hid hF1
      have hi' : (i : Int) < (n : Int) := by omega
      clear hRi hlenE hO hF0 hF1
      go_wp2_with fail
      go_loopg [5, 6] 12 (fun g vl vt wk => ∃ (t : Nat), g = 12 - t ∧ vt = .int .i64 t ∧ t ≤ 12 ∧ Hid (Own wk B 3 vl (mk i 0 (len + t))) ∧ Hid (∀ q, q < n → q ≠ i → Far vl (R q)) ∧ Hid (∀ j, j < i → Far (Rg j) vl) ∧ Hid (Rws wk B 3 24 (.slice Ao i co) i Rg (fun j => mk j 0 ((L j).length + 72))) ∧ Hid (Rws wk B 3 24 (.slice (some ⟨g1, 0, none⟩) n c) n R L) ∧ Hid (Blk wk b 40 cs) ∧ Hid (Below B w wk))
      case atStart => exact ⟨0, rfl, rfl, by omega, HO0, HF0, HF1, HG, HR, HK, HW⟩
      case round =>
        obtain ⟨t, hg, rfl, ht, HO, HF2, HF3, HG2, HR2, HK2, HW2⟩ := hrel
        have Hg2 := Lib.hid hg
        clear hg HO0 HF0 HF1 HG HR HK HW
        have hO1 := HO.out
        unfold Own at hO1
        rw [mk_length] at hO1
        obtain ⟨Al, cl, rfl⟩ := own_slice hO1
        have HO1 := Lib.hid hO1
        clear hO1 HO f2 e1
        by_cases htl : t < 12
        · go_wp2_with fail
          refine (mark_any i (len + t) 1 (by omega) (by omega) (by omega) _).mono ?_
          rintro e w2 ⟨vm, rfl, hm, hb2⟩
          unfold Own at hm
          rw [mk_length] at hm
          obtain ⟨gm, cm, rfl, _⟩ := hm.form (by omega)
          have hB1 : B ≤ wr.heap.size := Nat.le_trans hBw HW2.out.size
          have hO2 : w2.ownsRow B 3 1 (.slice Al (len + t) cl) (len + t) (mk i 0 (len + t)) := own_touch HO1.out (Touch.of_below hb2 (fun _ => False)) (fun _ _ h => h)
          have hG3 := HG2.out.below hb2
          have hR3 := HR2.out.below hb2
          have hcm := hm.cells (g := gm) rfl
          go_wp2_with (at_builtin; refine Bk.wpList_append_keeps _ rfl _ _ 24 rfl B 3 i0 (.int .i64 0) 1 8 Tryz.underlying24 hi0 hz0 hz1 hz2 rfl (by decide) _ _ _ rfl hO2 ⟨gm, 0, none⟩ 1 cm (mk i (len + t) 1) rfl (by simp [mk_length]) hcm (mk_one _ _ _) (by unfold maxLen; omega) (by omega) (Nat.le_trans hB1 hb2.size) ?_)
          intro v3 w3 hO3 hkeep hg3 hbl
          have HB3 : Hid (Below B w w3) := (HW2.out.trans (hb2.mono hB1)).grown hg3 (Nat.le_trans hBw (HW2.out.trans (hb2.mono hB1)).size) (fun k hk => (hO2.lt k hk).1)
          have HK3 : Hid (Blk w3 b 40 cs) := (HK2.out.below hb2 HK2.out.lt).grown hg3 (fun e => own_blk_ne hO2 (HK2.out.below hb2 HK2.out.lt) (by decide) e.symm)
          have HO3 : Hid (Own w3 B 3 v3 (mk i 0 (len + (t + 1)))) := by
            unfold Own
            rw [mk_length, ← Nat.add_assoc, ← mk_app i (len + t) 1]
            exact hO3
          have hnew : ∀ (u : Value), Far (.slice Al (len + t) cl) u → (∀ k, u.ownBlock = some k → k < w2.heap.size) → Far v3 u := by
            intro u hf hlt k hk hu
            rcases hbl with h | h
            · exact hf k (by rw [← h]; exact hk) hu
            · rw [h] at hk; cases hk; exact Nat.lt_irrefl _ (hlt _ hu)
          have HF4 : Hid (∀ q, q < n → q ≠ i → Far v3 (R q)) := fun q hq hqi => hnew _ (HF2.out q hq hqi) (fun k hk => ((hR3.inn q hq).lt hk).2)
          have HF5 : Hid (∀ j, j < i → Far (Rg j) v3) := fun j hj => (hnew _ (HF3.out j hj).symm (fun k hk => ((hG3.inn j hj).lt hk).2)).symm
          have HG4 : Hid (Rws w3 B 3 24 (.slice Ao i co) i Rg (fun j => mk j 0 ((L j).length + 72))) := hG3.keepBy (N := len + t) hkeep hg3 (fun g hg h => own_far hO2 hG3.out (by decide) g h hg) (fun j hj g hg h => absurd h (HF3.out j hj g hg))
          have HR4 : Hid (Rws w3 B 3 24 (.slice (some ⟨g1, 0, none⟩) n c) n R L) := hR3.keepBy (N := len + t) hkeep hg3 (fun g hg h => own_far hO2 hR3.out (by decide) g h hg) (fun q hq g hg h => by
            by_cases hqi : q = i
            · subst hqi; rw [← HlenE.out]; omega
            · exact absurd hg (HF2.out q hq hqi g h))
          clear hO2 hG3 hR3 hcm hm hO3 hkeep hg3 hbl hnew hb2 HO1 HF2 HF3 HG2 HR2 HK2 HW2
          go_wp2_with fail
          go_roundg (12 - (t + 1))
          case rel => exact ⟨t + 1, rfl, by go_num, by omega, HO3, HF4, HF5, HG4, HR4, HK3, HB3⟩
          case measure => have := Hg2.out; omega
        · obtain rfl : t = 12 := by omega
          go_wp2_with fail
          refine (mark_any i (len + 12) 60 (by omega) (by omega) (by omega) _).mono ?_
          rintro e w2 ⟨vm, rfl, hm, hb2⟩
          unfold Own at hm
          rw [mk_length] at hm
          obtain ⟨gm, cm, rfl, _⟩ := hm.form (by omega)
          have hB1 : B ≤ wr.heap.size := Nat.le_trans hBw HW2.out.size
          have hO2 : w2.ownsRow B 3 1 (.slice Al (len + 12) cl) (len + 12) (mk i 0 (len + 12)) := own_touch HO1.out (Touch.of_below hb2 (fun _ => False)) (fun _ _ h => h)
          have hG3 := HG2.out.below hb2
          have hR3 := HR2.out.below hb2
          have hcm := hm.cells (g := gm) rfl
          go_wp2_with (at_builtin; refine Bk.wpList_append_keeps _ rfl _ _ 24 rfl B 3 i0 (.int .i64 0) 1 8 Tryz.underlying24 hi0 hz0 hz1 hz2 rfl (by decide) _ _ _ rfl hO2 ⟨gm, 0, none⟩ 60 cm (mk i (len + 12) 60) rfl (by simp [mk_length]) hcm (mk_one _ _ _) (by unfold maxLen; omega) (by omega) (Nat.le_trans hB1 hb2.size) ?_)
          intro v3 w3 hO3 hkeep hg3 hbl
          have HB3 : Hid (Below B w w3) := (HW2.out.trans (hb2.mono hB1)).grown hg3 (Nat.le_trans hBw (HW2.out.trans (hb2.mono hB1)).size) (fun k hk => (hO2.lt k hk).1)
          have HK3 : Hid (Blk w3 b 40 cs) := (HK2.out.below hb2 HK2.out.lt).grown hg3 (fun e => own_blk_ne hO2 (HK2.out.below hb2 HK2.out.lt) (by decide) e.symm)
          have HO3 : Hid (Own w3 B 3 v3 (mk i 0 ((L i).length + 72))) := by
            unfold Own
            rw [mk_length, ← HlenE.out, show len + 72 = len + 12 + 60 from rfl, ← mk_app i (len + 12) 60]
            exact hO3
          obtain ⟨A3, c3, rfl⟩ := own_slice hO3
          have hnew : ∀ (u : Value), Far (.slice Al (len + 12) cl) u → (∀ k, u.ownBlock = some k → k < w2.heap.size) → Far (.slice A3 (len + 12 + 60) c3) u := by
            intro u hf hlt k hk hu
            rcases hbl with h | h
            · exact hf k (by rw [← h]; exact hk) hu
            · rw [h] at hk; cases hk; exact Nat.lt_irrefl _ (hlt _ hu)
          have HF4 : Hid (∀ q, q < n → q ≠ i → Far (.slice A3 (len + 12 + 60) c3) (R q)) := fun q hq hqi => hnew _ (HF2.out q hq hqi) (fun k hk => ((hR3.inn q hq).lt hk).2)
          have HF5 : Hid (∀ j, j < i → Far (Rg j) (.slice A3 (len + 12 + 60) c3)) := fun j hj => (hnew _ (HF3.out j hj).symm (fun k hk => ((hG3.inn j hj).lt hk).2)).symm
          have HG4 : Hid (Rws w3 B 3 24 (.slice Ao i co) i Rg (fun j => mk j 0 ((L j).length + 72))) := hG3.keepBy (N := len + 12) hkeep hg3 (fun g hg h => own_far hO2 hG3.out (by decide) g h hg) (fun j hj g hg h => absurd h (HF3.out j hj g hg))
          have HR4 : Hid (Rws w3 B 3 24 (.slice (some ⟨g1, 0, none⟩) n c) n R L) := hR3.keepBy (N := len + 12) hkeep hg3 (fun g hg h => own_far hO2 hR3.out (by decide) g h hg) (fun q hq g hg h => by
            by_cases hqi : q = i
            · subst hqi; rw [← HlenE.out]; omega
            · exact absurd hg (HF2.out q hq hqi g h))
          clear hO2 hG3 hR3 hcm hm hO3 hkeep hg3 hbl hnew hb2 HO1 HF2 HF3 HG2 HR2 HK2 HW2
          go_wp2_with (at_builtin; refine Bk.wpList_append_keeps _ rfl _ _ 34 rfl B 24 i1 (.slice none 0 0) 1 24 Tryz.underlying34 hi1 hy0 hy1 hy2 rfl (by decide) _ _ _ rfl (HG4.out.out.alloc _) ⟨w3.heap.size, 0, none⟩ 1 1 [.slice A3 (len + 12 + 60) c3] rfl rfl (cell_one_new _ _ _) (by intro u hu; simp at hu; subst hu; rfl) (by unfold maxLen; omega) (by omega) (by have := HB3.out.size; simp; omega) ?_)
          intro v5 w5 hO5 hkeep5 hg5 hbl5
          have ba : Below w3.heap.size w3 (w3.alloc (.cells #[.slice A3 (len + 12 + 60) c3] 24)) := (Below.refl _ _).alloc (Nat.le_refl _) _
          have hGa := HG4.out.below ba
          have hRa := HR4.out.below ba
          have hOa := HO3.out.touch (Touch.of_below ba (fun _ => False)) (fun _ _ h => h)
          have hO6 := hOa.grown hg5 (fun k hk e => own_far hOa hGa.out (by decide) k hk e)
          have hG6 := hGa.snoc (by decide) hO5 hg5 hO6 (fun j hj => HF5.out j hj)
          rw [show (fun k => if k = i then mk i 0 ((L i).length + 72) else mk k 0 ((L k).length + 72)) = fun k => mk k 0 ((L k).length + 72) from funext fun k => by by_cases h : k = i <;> simp [h]] at hG6
          have HG6 := Lib.hid hG6
          have HR6 : Hid (Rws w5 B 3 24 (.slice (some ⟨g1, 0, none⟩) n c) n R L) := hRa.touch (S := fun k => (Value.slice Ao i co).ownBlock = some k) (Touch.of_grown hg5 (fun k h => .inl h)) (fun k hk h => HV.out k h hk) (fun q hq k hk h => own_far (hRa.inn q hq) hGa.out (by decide) k hk h)
          have HF6 : Hid (∀ j q, j < i + 1 → q < n → q ≠ j → Far (if j = i then .slice A3 (len + 12 + 60) c3 else Rg j) (R q)) := by
            intro j q hj hq hqj
            split
            · rename_i h; subst h; exact HF4.out q hq hqj
            · exact HF.out j q (by omega) hq hqj
          have HV6 : Hid (Far v5 (.slice (some ⟨g1, 0, none⟩) n c)) := by
            intro k hk hu
            rcases hbl5 with h | h
            · exact HV.out k (by rw [← h]; exact hk) hu
            · rw [h] at hk; cases hk; exact absurd (hRa.out.lt _ hu).2 (by simp)
          have HB6 : Hid (Below B w w5) := (HB3.out.trans (ba.mono (Nat.le_trans hBw HB3.out.size))).grown hg5 (by have := HB3.out.size; simp; omega) (fun k hk => (hGa.out.lt k hk).1)
          have hKa : Blk (w3.alloc (.cells #[.slice A3 (len + 12 + 60) c3] 24)) b 40 cs := HK3.out.alloc _
          have HK6 := Lib.hid (hKa.grown hg5 (fun e => own_blk_ne hGa.out hKa (by decide) e.symm))
          clear hKa ba hGa hRa hOa hO6 hG6 hO5 hkeep5 hg5 hbl5 HO3 HF4 HF5 HG4 HR4 HB3 HK3 HF HV
          go_wp2_with fail
          go_roundg (n - (i + 1))
          case rel => exact ⟨i + 1, _, rfl, by go_num, by omega, HG6, HR6, HF6, HV6, HK6, HB6⟩
          case measure => have := Hg.out; omega
    · obtain rfl : i = n := by omega
      go_wp2_with fail
      go_ret
      exact ⟨_, Rg, rfl, HG.out, HR.out, HK.out, HW.out⟩

set_option maxHeartbeats 1000000 in
set_option maxRecDepth 100000 in
theorem marked_any (H : Rws w B 3 24 v n R L) (hn : n ≤ 1000) (hL : ∀ i, i < n → (L i).length ≤ 150000) (hM : ∀ i, i < n → L i = mk i 0 (L i).length) :
    Calls Tryz.prog 71 #[v] w fun e w' => e = .returned (.bool true) ∧ Below w.heap.size w w' := by
  obtain ⟨A, c, rfl⟩ := own_slice H.out
  have HL := Lib.hid hL
  have HM := Lib.hid hM
  have HH := Lib.hid H
  clear H hL hM
  go_enter Tryz.func71, Tryz.ntmps71
  go_wp2_with fail
  go_loopg [3] n (fun g vi wr => ∃ (i : Nat), g = n - i ∧ vi = .int .i64 i ∧ i ≤ n ∧ Hid (Below w.heap.size w wr))
  case atStart => exact ⟨0, rfl, rfl, by omega, Below.refl _ _⟩
  case round =>
    obtain ⟨i, hg, rfl, hi, HW⟩ := hrel
    have Hg := Lib.hid hg
    clear hg
    have HR := Lib.hid (HH.out.below HW.out)
    by_cases hlt : i < n
    · obtain ⟨g1, c1, hv1, e1, _⟩ := HR.out.cell hlt
      injection hv1 with hA1 _ hc1
      subst hA1 hc1
      obtain ⟨A1, k1, hR1, r1⟩ := (HR.out.inn i hlt).reads
      rw [hR1] at e1
      have hlen := HL.out i hlt
      have hme := HM.out i hlt
      obtain ⟨len, hlenE⟩ : ∃ len, len = (L i).length := ⟨_, rfl⟩
      rw [← hlenE] at e1 hlen hme r1
      have hSame : ∀ (W : World) (vm : Value), Below wr.heap.size wr.drew W → Own W wr.heap.size 3 vm (mk i 0 len) → ∃ Am cm, vm = .slice Am len cm ∧ Calls Tryz.prog 20 #[.slice A1 len k1, .slice Am len cm] W fun e w' => e = .returned (.bool true) ∧ ∃ q, w' = W.drewN q := by
        intro W vm hb ho
        unfold Own at ho
        rw [mk_length] at ho
        obtain ⟨Am, cm, rfl⟩ := own_slice ho
        have rm := Reads.of_own ho
        have r1' : Reads W wr.heap.size 1 A1 len (mk i 0 len) := by
          rw [← hme]
          exact (r1.drew).below hb
        have hs := same_any wr.heap.size W.heap.size k1 cm A1 Am (mk i 0 len) W (by rw [mk_length]; exact r1') (by rw [mk_length]; exact rm) (mk_is _ _ _) (by rw [mk_length]; omega)
        rw [mk_length] at hs
        exact ⟨Am, cm, rfl, hs⟩
      have hg1 : g1 < wr.heap.size := (HR.out.out.lt g1 rfl).2
      have hMark : ∀ W : World, Below wr.heap.size wr.drew W → W.heap.size = wr.heap.size → Calls Tryz.prog 89 #[.int .i64 i, .int .i64 0, .int .i64 len] W fun e w' => ∃ Am cm, e = .returned (.slice Am len cm) ∧ w'.cell? ⟨g1, i, none⟩ = some (.slice A1 len k1) ∧ Below wr.heap.size wr.drew w' ∧ Calls Tryz.prog 20 #[.slice A1 len k1, .slice Am len cm] w' fun e w'' => e = .returned (.bool true) ∧ ∃ q, w'' = w'.drewN q := by
        intro W hbW hsz
        refine (mark_any i 0 len (by omega) (by omega) hlen W).mono ?_
        rintro e w2 ⟨vm, rfl, hm, hb2⟩
        rw [hsz] at hm hb2
        obtain ⟨Am, cm, rfl, hs2⟩ := hSame w2 vm (hbW.trans hb2) hm
        exact ⟨Am, cm, rfl, ((hbW.trans hb2).cell (p := ⟨g1, i, none⟩) hg1).trans e1, hbW.trans hb2, hs2⟩
      have HMark := Lib.hid (hMark wr.drew (Below.refl _ _) rfl)
      have hi' : (i : Int) < (n : Int) := by omega
      clear hMark hSame hme r1 hR1 HH HR hlenE
      go_wp2_with fail
      go_region_held3 (fun W => W.cell? ⟨g1, i, none⟩ = some (.slice A1 len k1)) (first | exact e1 | exact hc2)
        (first
        | (go_at_call 89; refine HMark.out.mono ?_; rintro e w2 ⟨Am, cm, rfl, hc2, hb2, hs2⟩)
        | (go_at_call 20; refine hs2.mono ?_; rintro e w3 ⟨rfl, q, rfl⟩))
      all_goals
        go_wp2_with fail
        go_roundg (n - (i + 1))
        case rel => exact ⟨i + 1, rfl, by go_num, by omega, below_of_draw ((below_of_draw HW.out 1).trans (hb2.mono HW.out.size)) _⟩
        case measure => have := Hg.out; omega
    · obtain rfl : i = n := by omega
      go_wp2_with fail
      go_ret
      exact ⟨rfl, HW.out⟩
end

/-! The book as a whole -/
def cells (v v' : Value) : Array Value := #[.slice none 0 0, .slice none 0 0, v, v', .slice none 0 0, .slice none 0 0, .slice none 0 0, .slice none 0 0, .slice none 0 0, .slice none 0 0, .slice none 0 0, .slice none 0 0]

structure BookIs (w : World) (B b : Nat) (F : Nat → Prop) (v v' : Value) (n : Nat) (R R' : Nat → Value) (L : Nat → List Value) : Prop where
  blk : Blk w b 40 (cells v v')
  rows : Rws w B 3 24 v n R L
  copies : Rws w B 3 24 v' n R' L
  far : Far v v'
  few : n ≤ 250
  short : ∀ i, i < n → (L i).length ≤ 100000
  kind : ∀ i, i < n → ∀ u ∈ L i, IsE u
  low : B ≤ b
  fb : F b
  fv : ∀ k, v.ownBlock = some k → F k
  fv' : ∀ k, v'.ownBlock = some k → F k
  fr : ∀ i, i < n → ∀ k, (R i).ownBlock = some k → F k
  fr' : ∀ i, i < n → ∀ k, (R' i).ownBlock = some k → F k
def Is (w : World) (B b : Nat) (F : Nat → Prop) : Prop := ∃ v v' n R R' L, BookIs w B b F v v' n R R' L

theorem BookIs.touch {w w' : World} {B b : Nat} {F : Nat → Prop} {v v' : Value} {n : Nat} {R R' : Nat → Value} {L : Nat → List Value} (H : BookIs w B b F v v' n R R' L) {S : Nat → Prop} (T : Touch w w' S) (hS : ∀ k, F k → ¬ S k) : BookIs w' B b F v v' n R R' L :=
  { H with
    blk := (T.block b H.blk.lt (hS b H.fb)).trans H.blk
    rows := H.rows.touch T (fun k hk => hS k (H.fv k hk)) (fun i hi k hk => hS k (H.fr i hi k hk))
    copies := H.copies.touch T (fun k hk => hS k (H.fv' k hk)) (fun i hi k hk => hS k (H.fr' i hi k hk)) }
theorem Is.touch {w w' : World} {B b : Nat} {F : Nat → Prop} (H : Is w B b F) {S : Nat → Prop} (T : Touch w w' S) (hS : ∀ k, F k → ¬ S k) : Is w' B b F := by
  obtain ⟨v, v', n, R, R', L, h⟩ := H
  exact ⟨v, v', n, R, R', L, h.touch T hS⟩
theorem Is.below {w w' : World} {B b : Nat} {F : Nat → Prop} (H : Is w B b F) (T : Below w.heap.size w w') : Is w' B b F :=
  H.touch (Touch.of_below T (fun _ => False)) (fun _ _ h => h)
theorem Is.new (w : World) (B : Nat) (hB : B ≤ w.heap.size) : Is (w.alloc (.cells (cells (.slice none 0 0) (.slice none 0 0)) 40)) B w.heap.size (fun k => k = w.heap.size) := by
  refine ⟨_, _, 0, fun _ => .slice none 0 0, fun _ => .slice none 0 0, fun _ => [], Blk.new _ _ _, Rws.nil _ _ _ _ _ _, Rws.nil _ _ _ _ _ _, ?_, by omega, ?_, ?_, hB, rfl, ?_, ?_, ?_, ?_⟩
  · intro k hk; simp [Value.ownBlock] at hk
  · intro i hi; omega
  · intro i hi; omega
  · intro k hk; simp [Value.ownBlock] at hk
  · intro k hk; simp [Value.ownBlock] at hk
  · intro i hi; omega
  · intro i hi; omega

set_option maxRecDepth 100000 in
theorem copy_any (B : Nat) (l : Value) (xs : List Value) (w : World) (hl : Own w B 3 l xs) (hx : xs.length ≤ 100000) (hE : ∀ u ∈ xs, IsE u) :
    Calls Tryz.prog 44 #[l] w fun e w' => ∃ u, e = .returned u ∧ Own w' w.heap.size 3 u xs ∧ Below w.heap.size w w' := by
  obtain ⟨i0, hi0, hz0, hz1, hz2⟩ := info_parts infoE
  obtain ⟨A, c, rfl, hr⟩ := hl.reads
  go_enter Tryz.func44, Tryz.ntmps44
  go_wp2_with (at_builtin; refine wpList_append_any _ rfl _ _ 24 rfl w.heap.size 3 i0 (.int .i64 0) 1 8 Tryz.underlying24 hi0 hz0 hz1 hz2 rfl (by decide) (.slice none 0 0) 0 [] rfl (World.ownsRow_nil _ _ _ _) w.heap.size A xs.length c xs rfl hr (fun u hu => (hE u hu).one) (by unfold maxLen; omega) (by omega) (Nat.le_refl _) ?_)
  intro v' w2 ho2 hg2 _
  go_wp2_with fail
  go_ret
  refine ⟨_, rfl, ?_, (Below.refl _ _).grown hg2 (Nat.le_refl _) (fun k hk => by simp [Value.ownBlock] at hk)⟩
  exact ho2

set_option maxHeartbeats 2000000 in
set_option maxRecDepth 100000 in
theorem keep_any (B b : Nat) (F : Nat → Prop) (l : Value) (xs : List Value) (w : World) (H : Is w B b F) (hBw : B ≤ w.heap.size) (hl : Own w B 3 l xs) (hx : xs.length ≤ 100000) (hE : ∀ u ∈ xs, IsE u) (hf : ∀ k, l.ownBlock = some k → ¬ F k) :
    Calls Tryz.prog 14 #[.pointer (some ⟨b, 0, none⟩), l] w fun e w' => e = .returned (.tuple #[]) ∧ ∃ F', Is w' B b F' ∧ (∀ k, F' k → F k ∨ l.ownBlock = some k ∨ w.heap.size ≤ k) ∧ Touch w w' (fun k => F k ∧ ∀ cs, ¬ Blk w k 3 cs) := by
  obtain ⟨i0, hi0, hz0, hz1, hz2⟩ := info_parts infoE
  obtain ⟨i1, hi1, hy0, hy1, hy2⟩ := info_parts infoS
  obtain ⟨v, v', n, R, R', L, h⟩ := H
  obtain ⟨A, c, rfl⟩ := own_slice h.rows.out
  obtain ⟨A', c', rfl⟩ := own_slice h.copies.out
  obtain ⟨Al, cl, rfl⟩ := own_slice hl
  have f1 : w.cell? ⟨b, 2, none⟩ = some (.slice A n c) := h.blk.cell 2
  have f1z : w.frozen? ⟨b, 2, none⟩ = false := h.blk.frozen _
  have hfew := h.few
  have Hh := Lib.hid h
  have Hl := Lib.hid hl
  have HE := Lib.hid hE
  have Hf := Lib.hid hf
  clear h hl hE hf
  go_enter Tryz.func14, Tryz.ntmps14
  by_cases hlt : n < 250
  · have hlt' : (n : Int) < 250 := by omega
    go_wp2_with (at_builtin; refine wpList_append_any _ rfl _ _ 34 rfl B 24 i1 (.slice none 0 0) 1 24 Tryz.underlying34 hi1 hy0 hy1 hy2 rfl (by decide) (.slice A n c) n _ rfl (Hh.out.rows.out.alloc _) (w.heap.size + 1) (some ⟨w.heap.size, 0, none⟩) 1 1 [.slice Al xs.length cl] rfl ⟨rfl, fun _ => ⟨_, rfl, Nat.lt_succ_self _, cell_one_new _ _ _⟩⟩ (by intro u hu; simp at hu; subst hu; rfl) (by unfold maxLen; omega) (by omega) (by simp; omega) ?_)
    intro v2 w2 ho2 hg2 hb2
    obtain ⟨A2, c2, rfl⟩ := own_slice ho2
    have ba : Below w.heap.size w (w.alloc (.cells #[.slice Al xs.length cl] 24)) := (Below.refl _ _).alloc (Nat.le_refl _) _
    have hk1 : Blk (w.alloc (.cells #[.slice Al xs.length cl] 24)) b 40 (cells (.slice A n c) (.slice A' n c')) := Hh.out.blk.alloc _
    have hRa := Hh.out.rows.below ba
    have hCa := Hh.out.copies.below ba
    have hk2 := hk1.grown hg2 (fun e => own_blk_ne hRa.out hk1 (by decide) e.symm)
    have hl2 : Own w2 B 3 (.slice Al xs.length cl) xs := (Hl.out.touch (Touch.of_below ba (fun _ => False)) (fun _ _ h => h)).grown hg2 (fun k hk e => own_far Hl.out Hh.out.rows.out (by decide) k hk e)
    have hR2 := hRa.snoc (by decide) ho2 hg2 hl2 (fun i hi k hk hk' => Hf.out k hk' (Hh.out.fr i hi k hk))
    have hC2 : Rws w2 B 3 24 (.slice A' n c') n R' L := hCa.touch (S := fun k => (Value.slice A n c).ownBlock = some k) (Touch.of_grown hg2 (fun k h => .inl h)) (fun k hk h => Hh.out.far k h hk) (fun i hi k hk h => own_far (hCa.inn i hi) hRa.out (by decide) k hk h)
    have gv : ∀ k, (Value.slice A n c).ownBlock = some k → F k ∧ ∀ cs, ¬ Blk w k 3 cs := fun k hk => ⟨Hh.out.fv k hk, fun cs hb => own_blk_ne Hh.out.rows.out hb (by decide) hk⟩
    have gv' : ∀ k, (Value.slice A' n c').ownBlock = some k → F k ∧ ∀ cs, ¬ Blk w k 3 cs := fun k hk => ⟨Hh.out.fv' k hk, fun cs hb => own_blk_ne Hh.out.copies.out hb (by decide) hk⟩
    have gb : F b ∧ ∀ cs, ¬ Blk w b 3 cs := ⟨Hh.out.fb, fun cs hb => Blk.ne_ hb Hh.out.blk (by decide) rfl⟩
    have hT2 : Touch w w2 (fun k => F k ∧ ∀ cs, ¬ Blk w k 3 cs) := (Touch.of_below ba (fun k => F k ∧ ∀ cs, ¬ Blk w k 3 cs)).trans (Touch.of_grown hg2 (S := (fun k => F k ∧ ∀ cs, ¬ Blk w k 3 cs)) (fun k hk => .inl (gv k hk))) (fun i hi => .inl hi)
    have hfar2 : Far (.slice A2 (n + 1) c2) (.slice A' n c') := by
      intro k hk hk'
      rcases hb2 with e | e
      · exact Hh.out.far k (by rw [← e]; exact hk) hk'
      · rw [e] at hk; cases hk; exact absurd (hCa.out.lt _ hk').2 (by simp)
    have fz : w2.frozen? ⟨b, 2, none⟩ = false := hk2.frozen _
    have fc : w2.cell? ⟨b, 2, none⟩ = some (.slice A n c) := hk2.cell 2
    have hk3 : Blk (w2.setCell ⟨b, 2, none⟩ (.slice A2 (n + 1) c2)) b 40 (cells (.slice A2 (n + 1) c2) (.slice A' n c')) := hk2.set_ 2 (.slice A2 (n + 1) c2)
    have tb : Touch w2 (w2.setCell ⟨b, 2, none⟩ (.slice A2 (n + 1) c2)) (fun k => k = b) := ⟨rfl, rfl, rfl, by simp, fun k _ hk => heap_setCell_other w2 ⟨b, 2, none⟩ k (.slice A2 (n + 1) c2) hk⟩
    have hR3 := hR2.touch tb (fun k hk e => by subst e; exact own_blk_ne hR2.out hk2 (by decide) hk) (fun i hi k hk e => by subst e; exact own_blk_ne (hR2.inn i hi) hk2 (by decide) hk)
    have hC3 := hC2.touch tb (fun k hk e => by subst e; exact own_blk_ne hC2.out hk2 (by decide) hk) (fun i hi k hk e => by subst e; exact own_blk_ne (hC2.inn i hi) hk2 (by decide) hk)
    have hl3 : Own (w2.setCell ⟨b, 2, none⟩ (.slice A2 (n + 1) c2)) B 3 (.slice Al xs.length cl) xs := hl2.touch tb (fun k hk e => by subst e; exact own_blk_ne hl2 hk2 (by decide) hk)
    have hT3 : Touch w (w2.setCell ⟨b, 2, none⟩ (.slice A2 (n + 1) c2)) (fun k => F k ∧ ∀ cs, ¬ Blk w k 3 cs) := hT2.trans (tb.mono (T := (fun k => F k ∧ ∀ cs, ¬ Blk w k 3 cs)) (fun k e => .inl (by subst e; exact gb))) (fun i hi => .inl hi)
    have hsz3 : w.heap.size ≤ (w2.setCell ⟨b, 2, none⟩ (.slice A2 (n + 1) c2)).heap.size := hT3.size
    have hcopy : ∀ W : World, Below (w2.setCell ⟨b, 2, none⟩ (.slice A2 (n + 1) c2)).heap.size (w2.setCell ⟨b, 2, none⟩ (.slice A2 (n + 1) c2)) W → W.heap.size = (w2.setCell ⟨b, 2, none⟩ (.slice A2 (n + 1) c2)).heap.size → Calls Tryz.prog 44 #[.slice Al xs.length cl] W fun e w' => ∃ Au cu, e = .returned (.slice Au xs.length cu) ∧ w'.cell? ⟨b, 3, none⟩ = some (.slice A' n c') ∧ Own w' (w2.setCell ⟨b, 2, none⟩ (.slice A2 (n + 1) c2)).heap.size 3 (.slice Au xs.length cu) xs ∧ Below (w2.setCell ⟨b, 2, none⟩ (.slice A2 (n + 1) c2)).heap.size (w2.setCell ⟨b, 2, none⟩ (.slice A2 (n + 1) c2)) w' := by
      intro W hbW hsW
      refine (copy_any B _ xs W (hl3.touch (Touch.of_below hbW (fun _ => False)) (fun _ _ h => h)) hx HE.out).mono ?_
      rintro e w4 ⟨u, rfl, hu, hb4⟩
      rw [hsW] at hu hb4
      obtain ⟨Au, cu, rfl⟩ := own_slice hu
      exact ⟨Au, cu, rfl, ((hk3.below (hbW.trans hb4) hk3.lt).cell 3), hu, hbW.trans hb4⟩
    have HCopy := Lib.hid (hcopy (w2.setCell ⟨b, 2, none⟩ (.slice A2 (n + 1) c2)).drew (below_of_draw (Below.refl _ _) 1) rfl)
    have e3 : (w2.setCell ⟨b, 2, none⟩ (.slice A2 (n + 1) c2)).cell? ⟨b, 3, none⟩ = some (.slice A' n c') := hk3.cell 3
    clear hcopy
    go_wp2_with fail
    generalize hw3 : w2.setCell ⟨b, 2, none⟩ (.slice A2 (n + 1) c2) = w3 at *
    have hent : ∀ args w, (callFunc 44 args).run Tryz.prog w = .ok (.enter 44 args) w := enters_of Tryz.func44 (by kernel_rfl) rfl
    have Hent := Lib.hid hent
    clear hent
    go_region_law (first
      | (refine step_call1 rfl 44 _ _ rfl Hent.out (.slice Al xs.length cl) rfl HCopy.out ?_
         rintro e w4 ⟨Au, cu, rfl, e4, hu, hb4⟩
         have e4a : (w4.alloc (.cells #[.slice Au xs.length cu] 24)).cell? ⟨b, 3, none⟩ = some (.slice A' n c') := (World.cell?_alloc_lt _ _ _ (Nat.lt_of_lt_of_le hk3.lt hb4.size)).trans e4
         have hk4 := (hk3.below hb4 hk3.lt).alloc (.cells #[.slice Au xs.length cu] 24)
         have hC4 := (hC3.touch (Touch.of_below hb4 (fun _ => False)) (fun _ _ h => h) (fun _ _ _ _ h => h)).out.alloc (.cells #[.slice Au xs.length cu] 24)
         refine ⟨_, rfl, ?_⟩)
      | (refine step_append_any _ rfl _ _ 34 rfl B 24 i1 (.slice none 0 0) 1 24 Tryz.underlying34 hi1 hy0 hy1 hy2 rfl (by decide) (.slice A' n c') n _ rfl hC4 (w4.heap.size + 1) (some ⟨w4.heap.size, 0, none⟩) 1 1 [.slice Au xs.length cu] rfl ⟨rfl, fun _ => ⟨_, rfl, Nat.lt_succ_self _, cell_one_new _ _ _⟩⟩ ?_ ?_ ?_ ?_ ?_
         · intro u hu; simp at hu; subst hu; rfl
         · unfold maxLen; omega
         · omega
         · have := hb4.size; simp; omega
         intro v5 w5 ho5 hg5 hb5
         obtain ⟨A5, c5, rfl⟩ := own_slice ho5
         have hk5 := hk4.grown hg5 (fun e => own_blk_ne hC4 hk4 (by decide) e.symm)
         have e5 : w5.cell? ⟨b, 3, none⟩ = some (.slice A' n c') := hk5.cell 3
         have z5 := hk5.frozen 3))
    all_goals
      have tb4 : Touch w3 w4 (fun _ => False) := Touch.of_below hb4 _
      have ta : Touch w4 (w4.alloc (.cells #[.slice Au xs.length cu] 24)) (fun _ => False) := alloc_touch _ _ _
      have tg : Touch (w4.alloc (.cells #[.slice Au xs.length cu] 24)) w5 (fun k => (Value.slice A' n c').ownBlock = some k) := Touch.of_grown hg5 (fun k h => .inl h)
      have ts : Touch w5 (w5.setCell ⟨b, 3, none⟩ (.slice A5 (n + 1) c5)) (fun k => k = b) := ⟨rfl, rfl, rfl, by simp, fun k _ hk => heap_setCell_other w5 ⟨b, 3, none⟩ k (.slice A5 (n + 1) c5) hk⟩
      have hRa4 := (hR3.touch tb4 (fun _ _ h => h) (fun _ _ _ _ h => h)).touch ta (fun _ _ h => h) (fun _ _ _ _ h => h)
      have hCa4 := (hC3.touch tb4 (fun _ _ h => h) (fun _ _ _ _ h => h)).touch ta (fun _ _ h => h) (fun _ _ _ _ h => h)
      have hR5 := hRa4.touch tg (fun k hk h => hfar2 k hk h) (fun i hi k hk h => own_far (hRa4.inn i hi) hCa4.out (by decide) k hk h)
      have hua := hu.touch ta (fun _ _ h => h)
      have hu5 := hua.grown hg5 (fun k hk e => own_far hua hCa4.out (by decide) k hk e)
      have hu6 : Own w5 B 3 (.slice Au xs.length cu) xs := hu5.mono (Nat.le_trans hBw hsz3)
      have hC5 := hCa4.snoc (by decide) ho5 hg5 hu6 (fun i hi k hk hk' => absurd (hu.lt hk').1 (Nat.not_le_of_lt ((hC3.inn i hi).lt hk).2))
      have hR6 := hR5.touch ts (fun k hk e => by subst e; exact own_blk_ne hR5.out hk5 (by decide) hk) (fun i hi k hk e => by subst e; exact own_blk_ne (hR5.inn i hi) hk5 (by decide) hk)
      have hC6 := hC5.touch ts (fun k hk e => by subst e; exact own_blk_ne hC5.out hk5 (by decide) hk) (fun i hi k hk e => by subst e; exact own_blk_ne (hC5.inn i hi) hk5 (by decide) hk)
      have hk6 : Blk (w5.setCell ⟨b, 3, none⟩ (.slice A5 (n + 1) c5)) b 40 (cells (.slice A2 (n + 1) c2) (.slice A5 (n + 1) c5)) := hk5.set_ 3 _
      have hT6 : Touch w (w5.setCell ⟨b, 3, none⟩ (.slice A5 (n + 1) c5)) (fun k => F k ∧ ∀ cs, ¬ Blk w k 3 cs) := (((hT3.trans tb4 (fun _ h => h.elim)).trans ta (fun _ h => h.elim)).trans tg (fun k h => .inl (gv' k h))).trans ts (fun k h => .inl (by subst h; exact gb))
      have hfar5 : Far (.slice A2 (n + 1) c2) (.slice A5 (n + 1) c5) := by
        intro k hk hk'
        rcases hb5 with e | e
        · exact hfar2 k hk (by rw [← e]; exact hk')
        · rw [e] at hk'; cases hk'; exact absurd (hRa4.out.lt _ hk).2 (by simp)
      have hbook : BookIs (w5.setCell ⟨b, 3, none⟩ (.slice A5 (n + 1) c5)) B b (fun k => F k ∨ (Value.slice Al xs.length cl).ownBlock = some k ∨ w.heap.size ≤ k) _ _ (n + 1) _ _ _ :=
        { blk := hk6, rows := hR6, copies := hC6, far := hfar5, few := by omega
          short := fun i hi => by
            show (if i = n then xs else L i).length ≤ 100000
            split
            · exact hx
            · exact Hh.out.short i (by omega)
          kind := fun i hi u hu => by
            replace hu : u ∈ (if i = n then xs else L i) := hu
            split at hu
            · exact HE.out u hu
            · exact Hh.out.kind i (by omega) u hu
          low := Hh.out.low, fb := .inl Hh.out.fb
          fv := fun k hk => by
            rcases hb2 with e | e
            · exact .inl (Hh.out.fv k (by rw [← e]; exact hk))
            · rw [e] at hk; cases hk; exact .inr (.inr (by simp))
          fv' := fun k hk => by
            rcases hb5 with e | e
            · exact .inl (Hh.out.fv' k (by rw [← e]; exact hk))
            · rw [e] at hk; cases hk; exact .inr (.inr (by have := hb4.size; simp; omega))
          fr := fun i hi k hk => by
            replace hk : (if i = n then Value.slice Al xs.length cl else R i).ownBlock = some k := hk
            split at hk
            · exact .inr (.inl hk)
            · exact .inl (Hh.out.fr i (by omega) k hk)
          fr' := fun i hi k hk => by
            replace hk : (if i = n then Value.slice Au xs.length cu else R' i).ownBlock = some k := hk
            split at hk
            · exact .inr (.inr (Nat.le_trans hsz3 (hu.lt hk).1))
            · exact .inl (Hh.out.fr' i (by omega) k hk) }
      have HB6 := Lib.hid hbook
      have HT6 := Lib.hid hT6
      clear hbook hT6 hfar5 hk6 hC6 hR6 hC5 hu6 hu5 hua hR5 hCa4 hRa4 ts tg ta tb4
      go_wp2_with fail
      go_end0
      exact ⟨rfl, _, ⟨_, _, _, _, _, _, HB6.out⟩, fun k hk => hk, HT6.out⟩
  · go_wp2_with fail
    go_end0
    exact ⟨rfl, F, ⟨_, _, n, R, R', L, Hh.out⟩, fun k hk => .inl hk, Touch.refl _ _⟩
theorem stillTexts (b : Nat) (w : World) (hc : w.cell? ⟨b, 0, none⟩ = some (.slice none 0 0)) : Calls Tryz.prog 52 #[.pointer (some ⟨b, 0, none⟩)] w fun e w' => e = .returned (.bool true) ∧ w = w' := by
  go_enter Tryz.func52, Tryz.ntmps52
  go_wp2_with fail
  refine wp_loop_rounds 1 ?_
  rw [rounds_succ]
  go_wp2_with fail
  go_ret
  exact ⟨rfl, rfl⟩
theorem putTexts (b : Nat) (w : World) (hc : w.cell? ⟨b, 0, none⟩ = some (.slice none 0 0)) : Calls Tryz.prog 59 #[.pointer (some ⟨b, 0, none⟩)] w fun e w' => e = .returned (.tuple #[]) ∧ w = w' := by
  go_enter Tryz.func59, Tryz.ntmps59
  go_wp2_with fail
  refine wp_loop_rounds 1 ?_
  rw [rounds_succ]
  go_wp2_with fail
  go_end0
  exact ⟨rfl, rfl⟩
theorem growTexts (b : Nat) (w : World) (hc : w.cell? ⟨b, 0, none⟩ = some (.slice none 0 0)) : Calls Tryz.prog 64 #[.pointer (some ⟨b, 0, none⟩)] w fun e w' => e = .returned (.slice none 0 0) ∧ w = w' := by
  go_enter Tryz.func64, Tryz.ntmps64
  go_wp2_with fail
  refine wp_loop_rounds 1 ?_
  rw [rounds_succ]
  go_wp2_with fail
  go_ret
  exact ⟨rfl, rfl⟩
theorem markedTexts (w : World) : Calls Tryz.prog 70 #[.slice none 0 0] w fun e w' => e = .returned (.bool true) ∧ w = w' := by
  go_enter Tryz.func70, Tryz.ntmps70
  go_wp2_with fail
  refine wp_loop_rounds 1 ?_
  rw [rounds_succ]
  go_wp2_with fail
  go_ret
  exact ⟨rfl, rfl⟩
theorem stillWords (b : Nat) (w : World) (hc : w.cell? ⟨b, 4, none⟩ = some (.slice none 0 0)) : Calls Tryz.prog 54 #[.pointer (some ⟨b, 0, none⟩)] w fun e w' => e = .returned (.bool true) ∧ w = w' := by
  go_enter Tryz.func54, Tryz.ntmps54
  go_wp2_with fail
  refine wp_loop_rounds 1 ?_
  rw [rounds_succ]
  go_wp2_with fail
  go_ret
  exact ⟨rfl, rfl⟩
theorem putWords (b : Nat) (w : World) (hc : w.cell? ⟨b, 4, none⟩ = some (.slice none 0 0)) : Calls Tryz.prog 61 #[.pointer (some ⟨b, 0, none⟩)] w fun e w' => e = .returned (.tuple #[]) ∧ w = w' := by
  go_enter Tryz.func61, Tryz.ntmps61
  go_wp2_with fail
  refine wp_loop_rounds 1 ?_
  rw [rounds_succ]
  go_wp2_with fail
  go_end0
  exact ⟨rfl, rfl⟩
theorem growWords (b : Nat) (w : World) (hc : w.cell? ⟨b, 4, none⟩ = some (.slice none 0 0)) : Calls Tryz.prog 66 #[.pointer (some ⟨b, 0, none⟩)] w fun e w' => e = .returned (.slice none 0 0) ∧ w = w' := by
  go_enter Tryz.func66, Tryz.ntmps66
  go_wp2_with fail
  refine wp_loop_rounds 1 ?_
  rw [rounds_succ]
  go_wp2_with fail
  go_ret
  exact ⟨rfl, rfl⟩
theorem markedWords (w : World) : Calls Tryz.prog 72 #[.slice none 0 0] w fun e w' => e = .returned (.bool true) ∧ w = w' := by
  go_enter Tryz.func72, Tryz.ntmps72
  go_wp2_with fail
  refine wp_loop_rounds 1 ?_
  rw [rounds_succ]
  go_wp2_with fail
  go_ret
  exact ⟨rfl, rfl⟩
theorem stillSeens (b : Nat) (w : World) (hc : w.cell? ⟨b, 6, none⟩ = some (.slice none 0 0)) : Calls Tryz.prog 55 #[.pointer (some ⟨b, 0, none⟩)] w fun e w' => e = .returned (.bool true) ∧ w = w' := by
  go_enter Tryz.func55, Tryz.ntmps55
  go_wp2_with fail
  refine wp_loop_rounds 1 ?_
  rw [rounds_succ]
  go_wp2_with fail
  go_ret
  exact ⟨rfl, rfl⟩
theorem putSeens (b : Nat) (w : World) (hc : w.cell? ⟨b, 6, none⟩ = some (.slice none 0 0)) : Calls Tryz.prog 62 #[.pointer (some ⟨b, 0, none⟩)] w fun e w' => e = .returned (.tuple #[]) ∧ w = w' := by
  go_enter Tryz.func62, Tryz.ntmps62
  go_wp2_with fail
  refine wp_loop_rounds 1 ?_
  rw [rounds_succ]
  go_wp2_with fail
  go_end0
  exact ⟨rfl, rfl⟩
theorem growSeens (b : Nat) (w : World) (hc : w.cell? ⟨b, 6, none⟩ = some (.slice none 0 0)) : Calls Tryz.prog 67 #[.pointer (some ⟨b, 0, none⟩)] w fun e w' => e = .returned (.slice none 0 0) ∧ w = w' := by
  go_enter Tryz.func67, Tryz.ntmps67
  go_wp2_with fail
  refine wp_loop_rounds 1 ?_
  rw [rounds_succ]
  go_wp2_with fail
  go_ret
  exact ⟨rfl, rfl⟩
theorem markedSeens (w : World) : Calls Tryz.prog 73 #[.slice none 0 0] w fun e w' => e = .returned (.bool true) ∧ w = w' := by
  go_enter Tryz.func73, Tryz.ntmps73
  go_wp2_with fail
  refine wp_loop_rounds 1 ?_
  rw [rounds_succ]
  go_wp2_with fail
  go_ret
  exact ⟨rfl, rfl⟩
theorem stillCodes (b : Nat) (w : World) (hc : w.cell? ⟨b, 8, none⟩ = some (.slice none 0 0)) : Calls Tryz.prog 56 #[.pointer (some ⟨b, 0, none⟩)] w fun e w' => e = .returned (.bool true) ∧ w = w' := by
  go_enter Tryz.func56, Tryz.ntmps56
  go_wp2_with fail
  refine wp_loop_rounds 1 ?_
  rw [rounds_succ]
  go_wp2_with fail
  go_ret
  exact ⟨rfl, rfl⟩
theorem putCodes (b : Nat) (w : World) (hc : w.cell? ⟨b, 8, none⟩ = some (.slice none 0 0)) : Calls Tryz.prog 63 #[.pointer (some ⟨b, 0, none⟩)] w fun e w' => e = .returned (.tuple #[]) ∧ w = w' := by
  go_enter Tryz.func63, Tryz.ntmps63
  go_wp2_with fail
  refine wp_loop_rounds 1 ?_
  rw [rounds_succ]
  go_wp2_with fail
  go_end0
  exact ⟨rfl, rfl⟩
theorem growCodes (b : Nat) (w : World) (hc : w.cell? ⟨b, 8, none⟩ = some (.slice none 0 0)) : Calls Tryz.prog 68 #[.pointer (some ⟨b, 0, none⟩)] w fun e w' => e = .returned (.slice none 0 0) ∧ w = w' := by
  go_enter Tryz.func68, Tryz.ntmps68
  go_wp2_with fail
  refine wp_loop_rounds 1 ?_
  rw [rounds_succ]
  go_wp2_with fail
  go_ret
  exact ⟨rfl, rfl⟩
theorem markedCodes (w : World) : Calls Tryz.prog 74 #[.slice none 0 0] w fun e w' => e = .returned (.bool true) ∧ w = w' := by
  go_enter Tryz.func74, Tryz.ntmps74
  go_wp2_with fail
  refine wp_loop_rounds 1 ?_
  rw [rounds_succ]
  go_wp2_with fail
  go_ret
  exact ⟨rfl, rfl⟩
theorem stillExits (b : Nat) (w : World) (hc : w.cell? ⟨b, 10, none⟩ = some (.slice none 0 0)) : Calls Tryz.prog 57 #[.pointer (some ⟨b, 0, none⟩)] w fun e w' => e = .returned (.bool true) ∧ w = w' := by
  go_enter Tryz.func57, Tryz.ntmps57
  go_wp2_with fail
  refine wp_loop_rounds 1 ?_
  rw [rounds_succ]
  go_wp2_with fail
  go_ret
  exact ⟨rfl, rfl⟩
theorem putExits (b : Nat) (w : World) (hc : w.cell? ⟨b, 10, none⟩ = some (.slice none 0 0)) : Calls Tryz.prog 58 #[.pointer (some ⟨b, 0, none⟩)] w fun e w' => e = .returned (.tuple #[]) ∧ w = w' := by
  go_enter Tryz.func58, Tryz.ntmps58
  go_wp2_with fail
  refine wp_loop_rounds 1 ?_
  rw [rounds_succ]
  go_wp2_with fail
  go_end0
  exact ⟨rfl, rfl⟩
theorem growExits (b : Nat) (w : World) (hc : w.cell? ⟨b, 10, none⟩ = some (.slice none 0 0)) : Calls Tryz.prog 69 #[.pointer (some ⟨b, 0, none⟩)] w fun e w' => e = .returned (.slice none 0 0) ∧ w = w' := by
  go_enter Tryz.func69, Tryz.ntmps69
  go_wp2_with fail
  refine wp_loop_rounds 1 ?_
  rw [rounds_succ]
  go_wp2_with fail
  go_ret
  exact ⟨rfl, rfl⟩
theorem markedExits (w : World) : Calls Tryz.prog 75 #[.slice none 0 0] w fun e w' => e = .returned (.bool true) ∧ w = w' := by
  go_enter Tryz.func75, Tryz.ntmps75
  go_wp2_with fail
  refine wp_loop_rounds 1 ?_
  rw [rounds_succ]
  go_wp2_with fail
  go_ret
  exact ⟨rfl, rfl⟩

set_option maxHeartbeats 2000000 in
set_option maxRecDepth 100000 in
theorem apart_any (B b : Nat) (F : Nat → Prop) (w : World) (H : Is w B b F) (hBw : B ≤ w.heap.size) :
    Calls Tryz.prog 24 #[.pointer (some ⟨b, 0, none⟩)] w fun e w' => e = .returned (.bool true) ∧ Below B w w' := by
  obtain ⟨v, v', n, R, R', L, h⟩ := H
  obtain ⟨A, c, rfl⟩ := own_slice h.rows.out
  have hS := still_any b _ _ _ n B R R' L w h.blk rfl rfl h.rows h.copies (by have := h.few; omega) h.short h.kind
  have hP := fun q => put_any b _ _ n B R L (w.drewN q) h.blk hBw rfl (h.rows.drewN q) (by have := h.few; omega) h.short
  have hG := fun W (hb : Below B w W) (hr : Rws W B 3 24 (.slice A n c) n R (fun i => mk i 0 (L i).length)) (hk : Blk W b 40 (cells (.slice A n c) v')) => grow_any b _ _ n B R _ W hk (Nat.le_trans hBw hb.size) rfl hr (by have := h.few; omega) (fun i hi => by rw [mk_length]; exact h.short i hi) (fun i hi => by rw [mk_length])
  have hM1 := fun W vo Rg (hr : Rws W B 3 24 vo n Rg (fun i => mk i 0 ((mk i 0 (L i).length).length + 72))) => marked_any vo n B Rg _ W hr (by have := h.few; omega) (fun i hi => by rw [mk_length, mk_length]; have := h.short i hi; omega) (fun i hi => by simp only [mk_length])
  have hM2 := fun W (hr : Rws W B 3 24 (.slice A n c) n R (fun i => mk i 0 (L i).length)) => marked_any _ n B R _ W hr (by have := h.few; omega) (fun i hi => by rw [mk_length]; have := h.short i hi; omega) (fun i hi => by rw [mk_length])
  have HS := Lib.hid hS
  have HP := Lib.hid hP
  have HG := Lib.hid hG
  have HM1 := Lib.hid hM1
  have HM2 := Lib.hid hM2
  have hk := h.blk
  have hB : Below B w w := Below.refl _ _
  clear hS hP hG hM1 hM2 h
  have c0 : w.cell? ⟨b, 0, none⟩ = some (.slice none 0 0) := hk.cell 0
  have c2 : w.cell? ⟨b, 2, none⟩ = some (.slice A n c) := hk.cell 2
  have c4 : w.cell? ⟨b, 4, none⟩ = some (.slice none 0 0) := hk.cell 4
  have c6 : w.cell? ⟨b, 6, none⟩ = some (.slice none 0 0) := hk.cell 6
  have c8 : w.cell? ⟨b, 8, none⟩ = some (.slice none 0 0) := hk.cell 8
  have c10 : w.cell? ⟨b, 10, none⟩ = some (.slice none 0 0) := hk.cell 10
  go_enter Tryz.func24, Tryz.ntmps24
  go_wp2_with fail
  refine (stillTexts b _ c0).mono ?_
  rintro e w1 ⟨rfl, rfl⟩
  go_wp2_with fail
  refine HS.out.mono ?_
  rintro e w1 ⟨rfl, q, rfl⟩
  clear HS
  have hk1 : Blk (w.drewN q) b 40 (cells (.slice A n c) v') := hk
  clear c0 c2 c4 c6 c8 c10
  have c0 : (w.drewN q).cell? ⟨b, 0, none⟩ = some (.slice none 0 0) := hk1.cell 0
  have c2 : (w.drewN q).cell? ⟨b, 2, none⟩ = some (.slice A n c) := hk1.cell 2
  have c4 : (w.drewN q).cell? ⟨b, 4, none⟩ = some (.slice none 0 0) := hk1.cell 4
  have c6 : (w.drewN q).cell? ⟨b, 6, none⟩ = some (.slice none 0 0) := hk1.cell 6
  have c8 : (w.drewN q).cell? ⟨b, 8, none⟩ = some (.slice none 0 0) := hk1.cell 8
  have c10 : (w.drewN q).cell? ⟨b, 10, none⟩ = some (.slice none 0 0) := hk1.cell 10
  go_wp2_with fail
  refine (stillWords b _ c4).mono ?_
  rintro e w1 ⟨rfl, rfl⟩
  go_wp2_with fail
  refine (stillSeens b _ c6).mono ?_
  rintro e w1 ⟨rfl, rfl⟩
  go_wp2_with fail
  refine (stillCodes b _ c8).mono ?_
  rintro e w1 ⟨rfl, rfl⟩
  go_wp2_with fail
  refine (stillExits b _ c10).mono ?_
  rintro e w1 ⟨rfl, rfl⟩
  go_wp2_with fail
  refine (putExits b _ c10).mono ?_
  rintro e w1 ⟨rfl, rfl⟩
  go_wp2_with fail
  refine (putTexts b _ c0).mono ?_
  rintro e w1 ⟨rfl, rfl⟩
  go_wp2_with fail
  refine (HP.out q).mono ?_
  rintro e w2 ⟨rfl, hR2, hk2, hb2⟩
  have hB2 : Below B w w2 := (below_of_draw (Below.refl B w) q).trans hb2
  have HGr := Lib.hid (HG.out w2 hB2 hR2 hk2)
  clear c0 c2 c4 c6 c8 c10
  clear hk1 HP HG hb2
  have c0 : w2.cell? ⟨b, 0, none⟩ = some (.slice none 0 0) := hk2.cell 0
  have c2 : w2.cell? ⟨b, 2, none⟩ = some (.slice A n c) := hk2.cell 2
  have c4 : w2.cell? ⟨b, 4, none⟩ = some (.slice none 0 0) := hk2.cell 4
  have c6 : w2.cell? ⟨b, 6, none⟩ = some (.slice none 0 0) := hk2.cell 6
  have c8 : w2.cell? ⟨b, 8, none⟩ = some (.slice none 0 0) := hk2.cell 8
  have c10 : w2.cell? ⟨b, 10, none⟩ = some (.slice none 0 0) := hk2.cell 10
  go_wp2_with fail
  refine (putWords b _ c4).mono ?_
  rintro e w1 ⟨rfl, rfl⟩
  go_wp2_with fail
  refine (putSeens b _ c6).mono ?_
  rintro e w1 ⟨rfl, rfl⟩
  go_wp2_with fail
  refine (putCodes b _ c8).mono ?_
  rintro e w1 ⟨rfl, rfl⟩
  go_wp2_with fail
  refine (growTexts b _ c0).mono ?_
  rintro e w1 ⟨rfl, rfl⟩
  go_wp2_with fail
  refine HGr.out.mono ?_
  rintro e w3 ⟨vo, Rg, rfl, hRg, hR3, hk3, hb3⟩
  have hB3 := hB2.trans hb3
  have HRg := Lib.hid hRg
  have HR3 := Lib.hid hR3
  clear c0 c2 c4 c6 c8 c10
  clear hk2 HGr hb3 hB2 hRg hR3 hR2
  have c0 : w3.cell? ⟨b, 0, none⟩ = some (.slice none 0 0) := hk3.cell 0
  have c2 : w3.cell? ⟨b, 2, none⟩ = some (.slice A n c) := hk3.cell 2
  have c4 : w3.cell? ⟨b, 4, none⟩ = some (.slice none 0 0) := hk3.cell 4
  have c6 : w3.cell? ⟨b, 6, none⟩ = some (.slice none 0 0) := hk3.cell 6
  have c8 : w3.cell? ⟨b, 8, none⟩ = some (.slice none 0 0) := hk3.cell 8
  have c10 : w3.cell? ⟨b, 10, none⟩ = some (.slice none 0 0) := hk3.cell 10
  go_wp2_with fail
  refine (growWords b _ c4).mono ?_
  rintro e w1 ⟨rfl, rfl⟩
  go_wp2_with fail
  refine (growSeens b _ c6).mono ?_
  rintro e w1 ⟨rfl, rfl⟩
  go_wp2_with fail
  refine (growCodes b _ c8).mono ?_
  rintro e w1 ⟨rfl, rfl⟩
  go_wp2_with fail
  refine (growExits b _ c10).mono ?_
  rintro e w1 ⟨rfl, rfl⟩
  go_wp2_with fail
  refine (markedTexts _).mono ?_
  rintro e w1 ⟨rfl, rfl⟩
  go_wp2_with fail
  refine (markedTexts _).mono ?_
  rintro e w1 ⟨rfl, rfl⟩
  go_wp2_with fail
  refine (HM1.out _ _ _ HRg.out).mono ?_
  rintro e w4 ⟨rfl, hb4⟩
  have hk4 := hk3.below hb4 hk3.lt
  have HR4 := Lib.hid (HR3.out.below hb4)
  have hB4 := hB3.trans (hb4.mono (Nat.le_trans hBw hB3.size))
  clear c0 c2 c4 c6 c8 c10
  clear hk3 HM1 HRg HR3 hb4 hB3
  have c0 : w4.cell? ⟨b, 0, none⟩ = some (.slice none 0 0) := hk4.cell 0
  have c2 : w4.cell? ⟨b, 2, none⟩ = some (.slice A n c) := hk4.cell 2
  have c4 : w4.cell? ⟨b, 4, none⟩ = some (.slice none 0 0) := hk4.cell 4
  have c6 : w4.cell? ⟨b, 6, none⟩ = some (.slice none 0 0) := hk4.cell 6
  have c8 : w4.cell? ⟨b, 8, none⟩ = some (.slice none 0 0) := hk4.cell 8
  have c10 : w4.cell? ⟨b, 10, none⟩ = some (.slice none 0 0) := hk4.cell 10
  go_wp2_with fail
  refine (HM2.out _ HR4.out).mono ?_
  rintro e w5 ⟨rfl, hb5⟩
  have hk5 := hk4.below hb5 hk4.lt
  have hB5 := hB4.trans (hb5.mono (Nat.le_trans hBw hB4.size))
  clear c0 c2 c4 c6 c8 c10
  clear hk4 HM2 HR4 hb5 hB4
  have c0 : w5.cell? ⟨b, 0, none⟩ = some (.slice none 0 0) := hk5.cell 0
  have c2 : w5.cell? ⟨b, 2, none⟩ = some (.slice A n c) := hk5.cell 2
  have c4 : w5.cell? ⟨b, 4, none⟩ = some (.slice none 0 0) := hk5.cell 4
  have c6 : w5.cell? ⟨b, 6, none⟩ = some (.slice none 0 0) := hk5.cell 6
  have c8 : w5.cell? ⟨b, 8, none⟩ = some (.slice none 0 0) := hk5.cell 8
  have c10 : w5.cell? ⟨b, 10, none⟩ = some (.slice none 0 0) := hk5.cell 10
  go_wp2_with fail
  refine (markedWords _).mono ?_
  rintro e w1 ⟨rfl, rfl⟩
  go_wp2_with fail
  refine (markedWords _).mono ?_
  rintro e w1 ⟨rfl, rfl⟩
  go_wp2_with fail
  refine (markedSeens _).mono ?_
  rintro e w1 ⟨rfl, rfl⟩
  go_wp2_with fail
  refine (markedSeens _).mono ?_
  rintro e w1 ⟨rfl, rfl⟩
  go_wp2_with fail
  refine (markedCodes _).mono ?_
  rintro e w1 ⟨rfl, rfl⟩
  go_wp2_with fail
  refine (markedCodes _).mono ?_
  rintro e w1 ⟨rfl, rfl⟩
  go_wp2_with fail
  refine (markedExits _).mono ?_
  rintro e w1 ⟨rfl, rfl⟩
  go_wp2_with fail
  refine (markedExits _).mono ?_
  rintro e w1 ⟨rfl, rfl⟩
  go_wp2_with fail
  go_ret
  exact ⟨rfl, hB5⟩
end Go.Proofs.YtoaidcjjjoafjaaGreatDoor.BkI
