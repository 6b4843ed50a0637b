/-
  The walk of HotPlays.
-/
import Derived.Test.YtfoogcdpllkeoaaHotG
import Derived.Deep.LoopGhost
namespace Go.Proofs.Ytfoogcdpllkeoaa.Hot
open Go.RowKit Go.Maps

/-- The calls: what is done, and of which. -/
def OpsAt (w : World) (A : Option Addr) (len : Nat) (kd ip : Nat → Int) : Prop :=
  len = 0 ∨ ∃ b off, A = some ⟨b, off, none⟩ ∧ b < w.heap.size ∧ ∀ i, i < len → w.cell? ⟨b, off + i * 2, none⟩ = some (.int .i64 (kd i)) ∧ w.cell? ⟨b, off + i * 2 + 1, none⟩ = some (.int .i64 (ip i)) ∧ (Lit.int .i64 (ip i)).wf = true

theorem evict_unique {D D1 D2 : Dm} {k : Int} (h1 : Evict D k D1) (h2 : Evict D k D2) : D1 = D2 := by
  unfold Evict at h1 h2
  split at h1
  · rename_i h
    rw [if_pos h] at h2
    obtain ⟨k1, l1, rfl⟩ := h1
    obtain ⟨k2, l2, rfl⟩ := h2
    rw [least_unique l1 l2]
  · rename_i h
    rw [if_neg h] at h2
    rw [h1, h2]

theorem passed_unique {D D1 D2 : Dm} {h k : Int} {b1 b2 : Bool} (h1 : Passed D h k b1 D1) (h2 : Passed D h k b2 D2) : b1 = b2 ∧ D1 = D2 := by
  obtain ⟨E1, c1, e1, a1, _, x1⟩ := h1
  obtain ⟨E2, c2, e2, a2, _, x2⟩ := h2
  have := evict_unique e1 e2
  subst this
  have : c1 = c2 := lit64_inj (a1.symm.trans a2)
  subst this
  rcases x1 with ⟨p1, rfl, rfl⟩ | ⟨p1, rfl, rfl⟩ <;> rcases x2 with ⟨p2, rfl, rfl⟩ | ⟨p2, rfl, rfl⟩
  · exact ⟨rfl, rfl⟩
  · exact absurd p1 p2
  · exact absurd p2 p1
  · exact ⟨rfl, rfl⟩

/-- All counts are at least one, and not more than so many were made; there are at most 32. -/
structure Fine (D : Dm) (i : Nat) : Prop where
  tidy : Tidy D
  low : ∀ k c, At D k c → 1 ≤ c ∧ c ≤ i
  size : Maps.size D ≤ 32

theorem fine_del {D : Dm} {i : Nat} (h : Fine D i) (k : Int) : Fine (D.del (ky k)) i := by
  refine ⟨h.tidy.del _, fun j c hj => ?_, Nat.le_trans (size_del_le h.tidy _) h.size⟩
  by_cases e : j = k
  · subst e
    have := at_has hj
    rw [has_del_same] at this
    cases this
  · exact h.low j c fun z => (atKey_del_other (ky_ne e) z).symm.trans (hj z)

theorem fine_mono {D : Dm} {i j : Nat} (h : Fine D i) (hij : i ≤ j) : Fine D j :=
  ⟨h.tidy, fun k c hk => by have := h.low k c hk; omega, h.size⟩

theorem fine_passed {D D' : Dm} {i : Nat} {n k : Int} {b : Bool} (hF : Fine D i) (hi : i ≤ 300) (hp : Passed D n k b D') : Fine D' (i + 1) := by
  obtain ⟨D1, c, he, hat, hwc, hc⟩ := hp
  have hD1 : Fine D1 i ∧ (Maps.has D1 (ky k) = false → Maps.size D1 ≤ 31) := by
    unfold Evict at he
    split at he
    · rename_i h
      obtain ⟨k0, ⟨_, m0, x1, x2, _⟩, rfl⟩ := he
      refine ⟨fine_del hF k0, fun _ => ?_⟩
      have h1 := size_del hF.tidy (k := ky k0)
      rw [x2, if_pos rfl] at h1
      have h2 := hF.size
      omega
    · rename_i h
      subst he
      exact ⟨hF, fun hh => by
        have : ¬ 32 ≤ Maps.size D1 := fun h3 => h ⟨hh, h3⟩
        omega⟩
  obtain ⟨hF1, hs1⟩ := hD1
  have hc0 : 0 ≤ c ∧ c ≤ i := by
    cases hh : Maps.has D1 (ky k)
    · rw [atKey_of_not_has hh] at hat
      have := lit64_inj hat
      omega
    · have := hF1.low k c (at_at hh _ hat)
      omega
  have hw : wrap64 (c + 1) = c + 1 := IntWalk.wrap64_in _ ⟨by omega, by omega⟩
  rw [hw] at hc
  have hput : Fine (D1.put (ky k) (lit64 (c + 1))) (i + 1) := by
    refine ⟨hF1.tidy.put (isKey k) _, fun j d hj => ?_, ?_⟩
    · by_cases e : j = k
      · subst e
        have := at_inj hj (at_put_same hF1.tidy.isMap _ _)
        omega
      · have := hF1.low j d fun z => (atKey_put_other (ky_ne e) _ z).symm.trans (hj z)
        omega
    · rw [size_put hF1.tidy]
      have := hF1.size
      split
      · omega
      · rename_i h; have := hs1 (by simpa using h); omega
  rcases hc with ⟨_, _, rfl⟩ | ⟨_, _, rfl⟩
  · exact hput
  · exact fine_del hput k

theorem plays_bad (n ask : Int) (A : Option Addr) (len cap : Nat) (w : World) (h : 300 < len) (hm : len ≤ maxLen) :
    Calls Try.prog 5 #[.int .i64 n, .slice A len cap, .int .i64 ask] w fun e w' => e = .returned (.bool true) ∧ Below w.heap.size w w' := by
  unfold maxLen at hm
  go_enter Try.func5, Try.ntmps5
  go_wp2_with fail
  refine (alive_any _).mono ?_
  rintro e w1 ⟨rfl, hb⟩
  go_wp2_with fail
  go_ret
  exact ⟨rfl, hb⟩

theorem look1 (w : World) (b n : Nat) (D : Dm) (k c : Int) (ho : w.ownsMap Try.prog 3 (plainElem Try.prog 3) b n D) (hk : (Lit.int .i64 k).wf = true) (hat : D.atKey (ky k) (lit64 0) = lit64 c) :
    (Instr.lookup 30 (.map (some b)) (.int .i64 k) false).run Try.prog w = .ok (.int .i64 c) w := look3 w b n D k c ho hk hat 0

/-- What the statement's own counting makes of the counts, and of its answer. -/
def Counted (D : Dm) (n k : Int) (b : Bool) (D' : Dm) : Prop := (0 < n ∧ Passed D n k b D') ∨ (n ≤ 0 ∧ b = false ∧ D' = D)

/-- The least so far, as the statement finds it: 0 as long as there is none. -/
def Met2 (D : Dm) (left : Lit → Bool) (m0 k0 : Int) : Prop :=
  (m0 = 0 ∧ Met D left true k0) ∨ (1 ≤ m0 ∧ Met D left false k0 ∧ At D k0 m0)

theorem met2_first {D : Dm} {left : Lit → Bool} {k c k0 : Int} (hm : Met2 D left 0 k0) (hw : (Lit.int .i64 k).wf = true) (hat : At D k c) (hc : 1 ≤ c) : Met2 D (fun z => left z && !z.sameKey (ky k)) c k := by
  rcases hm with ⟨_, h⟩ | ⟨h, _⟩
  · have e : k0 = 0 := h.1
    subst e
    exact Or.inr ⟨hc, met_first h hw hat, hat⟩
  · omega

theorem met2_next {D : Dm} {left : Lit → Bool} {k0 k c m0 : Int} (hm : Met2 D left m0 k0) (h0 : m0 ≠ 0) (hw : (Lit.int .i64 k).wf = true) (hl : left (ky k) = true) (hat : At D k c) (hc : 1 ≤ c) :
    ((c < m0 ∨ (c = m0 ∧ k < k0)) → Met2 D (fun z => left z && !z.sameKey (ky k)) c k) ∧ (¬ (c < m0 ∨ (c = m0 ∧ k < k0)) → Met2 D (fun z => left z && !z.sameKey (ky k)) m0 k0) := by
  rcases hm with ⟨h, _⟩ | ⟨h1, h2, h3⟩
  · exact absurd h h0
  · constructor
    · intro h
      exact Or.inr ⟨hc, met_next h2 h3 hw hl hat k (by omega), hat⟩
    · intro h
      exact Or.inr ⟨h1, met_next h2 h3 hw hl hat k0 (by omega), h3⟩

theorem met2_end {D : Dm} {left : Lit → Bool} {m0 k0 : Int} (hm : Met2 D left m0 k0) (hl : ∀ kl, left kl = false) (hne : ∃ k, Maps.has D k = true) : Least D k0 := by
  rcases hm with ⟨_, h⟩ | ⟨_, h, _⟩
  · exact met_end h hl hne
  · exact met_end h hl hne

set_option maxHeartbeats 4000000 in
set_option maxRecDepth 100000 in
theorem plays_walk (n ask : Int) (hask : (Lit.int .i64 ask).wf = true) (A : Option Addr) (len cap : Nat) (kd ip : Nat → Int) (w : World) (h : len ≤ 300) (hops : OpsAt w A len kd ip) :
    Calls Try.prog 5 #[.int .i64 n, .slice A len cap, .int .i64 ask] w fun e w' => e = .returned (.bool true) ∧ Below w.heap.size w w' := by
  have hmm := @run_makeMap Try.prog
  go_enter Try.func5, Try.ntmps5
  go_wp2_with fail
  refine (alive_any _).mono ?_
  rintro e w1 ⟨rfl, hb1⟩
  go_wp2_with fail
  refine (new_any n _).mono ?_
  rintro e w2 ⟨rfl, hh2, hb2, hs2⟩
  have hz := hb1.size
  have hz2 : w.heap.size ≤ w1.heap.size := hz
  have hzm : w1.heap.size + 2 ≤ w2.heap.size := hs2
  have hsc : w1.heap.size + 1 < w2.heap.size := by omega
  have hsm : w.heap.size ≤ w1.heap.size + 1 := by omega
  go_wp2_with fail
  clear hmm
  have Hb := Lib.hid (((hb1.trans (hb2.mono hz))).alloc (Nat.le_trans hz hb2.size) (.map #[] 0))
  have hh3 := hh2.grown (World.grownBy_alloc w2 (.map #[] 0) none) (by simp) (by simp)
  have ho3 := World.ownsMap_made (H := Unit) w2 Try.prog 3 (plainElem Try.prog 3)
  clear hb1 hb2 hh2
  generalize w1.heap.size + 1 = sb at *
  generalize w1.heap.size = bm at *
  generalize w2.alloc (.map #[] 0) = w3 at *
  generalize w2.heap.size = cm at *
  have hF0 : Hid (Fine (.map [] : Dm) 0) := ⟨tidy_empty, fun k c hk => (by have := at_has hk; cases this), by simp [Maps.size]⟩
  go_loopg [9] len (fun g v wr => ∃ (i : Nat) (D : Dm), g = len - i ∧ v = .int .i64 i ∧ i ≤ len ∧ HotIs wr sb bm n D ∧ wr.ownsMap Try.prog 3 (plainElem Try.prog 3) cm (Maps.size D) D ∧ Hid (Fine D i) ∧ Hid (Below w.heap.size w wr))
  case atStart => exact ⟨0, _, rfl, rfl, by omega, hh3, ho3, hF0, Hb⟩
  case round =>
    obtain ⟨i, D, hg, rfl, hi, hh, ho, hF, hb⟩ := hrel
    have Hg := Lib.hid hg
    clear hg
    by_cases hlt : i < len
    · rcases hops with h0 | ⟨b, off, rfl, hbl, hcells⟩
      · omega
      obtain ⟨g0, g1, hwi⟩ := hcells i hlt
      have k0 : wr.cell? ⟨b, off + i * 2, none⟩ = some (.int .i64 (kd i)) := (hb.out.cell (p := ⟨b, off + i * 2, none⟩) hbl).trans g0
      have k1 : wr.cell? ⟨b, off + i * 2 + 1, none⟩ = some (.int .i64 (ip i)) := (hb.out.cell (p := ⟨b, off + i * 2 + 1, none⟩) hbl).trans g1
      clear g0 g1 hcells
      generalize kd i = kk at *
      generalize ip i = p at *
      have hkp := keyOf_int_mk Try.underlying3 hwi
      have hms : Maps.size D + 2 < maxLen := by
        have := hF.out.size
        have : (40 : Nat) < maxLen := by decide
        omega
      go_upto_if 48 with fail
      go_cut [] (fun wc => ∃ D', HotIs wc sb bm n D' ∧ wc.ownsMap Try.prog 3 (plainElem Try.prog 3) cm (Maps.size D') D' ∧ Hid (Fine D' (i + 1)) ∧ Hid (Below w.heap.size w wc))
      case first =>
        by_cases hk : kk = 1
        · subst hk
          go_upto_if 50 with fail
          go_cut [11] (fun s11 wc => ∃ D' b, s11 = .bool b ∧ Hid (Counted D n p b D') ∧ HotIs wc sb bm n D ∧ wc.ownsMap Try.prog 3 (plainElem Try.prog 3) cm (Maps.size D') D' ∧ Hid (Below w.heap.size w wc))
          case first =>
            by_cases hn : 0 < n
            · have hcs : cm ≠ sb ∧ cm ≠ bm := ⟨by omega, by omega⟩
              have hb0 := hb.out.size
              obtain ⟨cx, hrunx⟩ := look_ok3 wr cm _ D p ho hwi
              have hlen := ho.len Try.underlying30 3
              by_cases hno : Maps.has D (ky p) = false ∧ 32 ≤ Maps.size D
              · obtain ⟨hhas, hs32⟩ := hno
                rw [hhas] at hrunx
                have hsz : (32 : Int) ≤ (Maps.size D : Int) := by omega
                have hsome : Hid (∃ k, Maps.has D k = true) := some_of_size ho (by omega)
                have hev : ∀ k0 D1, Least D k0 → D1 = D.del (ky k0) → Hid (Evict D p D1) := fun k0 D1 hl e => evict_full hhas hs32 hl e
                have Hev := Lib.hid hev
                have hlow : Hid (∀ k c, At D k c → 1 ≤ c) := fun k c hk => (hF.out.low k c hk).1
                clear hev hhas
                go_upto_if 63 with fail
                go_cut [] (fun wc => ∃ D1, Hid (Evict D p D1) ∧ HotIs wc sb bm n D ∧ wc.ownsMap Try.prog 3 (plainElem Try.prog 3) cm (Maps.size D1) D1 ∧ Maps.size D1 < maxLen ∧ Hid (Below w.heap.size w wc))
                case first =>
                  go_wp2_with (first
                    | (at_range; refine wpList_range_own _ rfl _ 30 rfl 3 3 law3 Try.underlying30 _ cm _ _ rfl ho ?_; intro w0 hrg0 hg0 hs0)
                    | go_in)
                  go_frame
                  generalize hr : wr.heap.size = r at *
                  have hrr : r = wr.heap.size := hr.symm
                  clear hr
                  have HR := Lib.hid hrr
                  clear hrr
                  obtain ⟨wo, rfl⟩ : ∃ wo : World, wo = wr := ⟨_, rfl⟩
                  have hst : Met2 D (Maps.has D) 0 0 := Or.inl ⟨rfl, rfl, rfl⟩
                  have Hst := Lib.hid hst
                  clear hst
                  simp only [show ((1 : Int) == 1) = true from rfl, show decide (0 < n) = true from decide_eq_true hn]
                  go_loopg [14, 15] (Maps.size D) (fun g sl sa wi => ∃ (left : Lit → Bool) (m0 k0 : Int), sl = .int .i64 m0 ∧ sa = .int .i64 k0 ∧ wi.ranges Try.prog 3 (plainElem Try.prog 3) cm r (Maps.size D) D left g ∧ wo.grownBy wi none ∧ Hid (Met2 D left m0 k0))
                  case atStart => exact ⟨_, 0, 0, rfl, rfl, hrg0, hg0, Hst⟩
                  case round =>
                    obtain ⟨left, m0, k0, rfl, rfl, hrg, hgw, hmet⟩ := hrel
                    go_wp2_with (first
                      | (at_next; refine wpList_next_ranges_ii _ rfl _ rfl 3 3 .i64 .i64 law3 Try.underlying3 Try.underlying3 cm r _ _ _ _ rfl hrg ?_ ?_)
                      | go_in)
                    · intro _ hl0
                      have hk0 := met2_end hmet.out hl0 hsome.out
                      have HK := Lib.hid hk0
                      clear hl0 hk0
                      have hkk := keyOf_int_mk Try.underlying3 HK.out.1
                      go_wp2_with (first
                        | (at_delete; refine wpList_delete_own _ rfl _ _ 30 3 rfl 3 law3 Try.underlying30 _ cm _ _ rfl hrg.owns _ _ rfl hkk ?_; intro w6 ho6 hg6))
                      go_meet
                      exact ⟨_, Hev.out k0 _ HK.out rfl, (hh.grown hgw (by simp) (by simp)).grown hg6.grown (by simp; omega) (by simp; omega), owns_tight ho6, Nat.lt_of_le_of_lt (size_del_le (ho.tidy law3) _) (by omega), (hb.out.grown hgw hb.out.size (fun j e => by cases e)).grown hg6.grown (by have h7 := hgw.size; have h8 := hb.out.size; omega) (fun j e => by cases e; omega)⟩
                    · intro x c w1 cnt1 hwx hwc hlx hat hrg1 hlt hg1 hs1 hen
                      have hgw1 := hgw.andThen hg1 (fun j hj => by cases hj; exact Or.inl (by have := HR.out; omega))
                      have hc1 := hlow.out x c hat
                      by_cases h0 : m0 = 0
                      · subst h0
                        have H := Lib.hid (met2_first hmet.out hwx hat hc1)
                        clear hmet hat hlx
                        go_wp2
                        go_roundg cnt1
                        case rel => exact ⟨_, c, x, rfl, rfl, hrg1, hgw1, H⟩
                        case measure => exact hlt
                      · have hnx := met2_next hmet.out h0 hwx hlx hat hc1
                        have H := Lib.hid hnx
                        clear hnx hmet hat hlx
                        by_cases h1 : c < m0
                        · go_wp2
                          go_roundg cnt1
                          case rel => exact ⟨_, c, x, rfl, rfl, hrg1, hgw1, H.out.1 (Or.inl h1)⟩
                          case measure => exact hlt
                        · by_cases h2 : c = m0
                          · subst h2
                            by_cases h3 : x < k0
                            · go_wp2
                              go_roundg cnt1
                              case rel => exact ⟨_, c, x, rfl, rfl, hrg1, hgw1, H.out.1 (Or.inr ⟨by first | rfl | trivial, h3⟩)⟩
                              case measure => exact hlt
                            · go_wp2
                              go_roundg cnt1
                              case rel => exact ⟨_, c, k0, rfl, rfl, hrg1, hgw1, H.out.2 (by omega)⟩
                              case measure => exact hlt
                          · go_wp2
                            go_roundg cnt1
                            case rel => exact ⟨_, m0, k0, rfl, rfl, hrg1, hgw1, H.out.2 (by omega)⟩
                            case measure => exact hlt
                case rest =>
                  obtain ⟨D1, he, hh1, ho1, hsz1, hb1⟩ := hcut
                  obtain ⟨c, hrun, hat, hwc⟩ := ho1.lookup_int law3 Try.underlying30 Try.underlying3 (zero3 _) hkp
                  have hat' := Lib.hid hat
                  clear hat
                  by_cases hc : wrap64 (c + 1) < n
                  · go_wp2_with (first
                      | (at_mapUpdate; refine wpList_mapUpdate_own _ rfl _ _ _ 30 rfl 3 3 law3 Try.underlying30 _ cm _ D1 rfl ho1 hsz1 _ _ _ rfl rfl hkp _ [] (plainElem_int Try.underlying3 (wrap64_wf _)) ?_; intro w5 ho5 hg5; have hrun5 := look1 w5 cm _ (D1.put (ky p) (lit64 (wrap64 (c + 1)))) p (wrap64 (c + 1)) ho5 hwi (atKey_put_same ho1.isMap (isKey p) _ _)))
                    have hh5 := hh1.grown hg5 (by simp; omega) (by simp; omega)
                    have hb5 : Hid (Below w.heap.size w w5) := hb1.out.grown hg5 hb1.out.size (fun j e => by cases e; omega)
                    go_meet
                    exact ⟨_, false, rfl, Or.inl ⟨hn, D1, c, he.out, hat'.out, hwc, Or.inl ⟨by omega, rfl, rfl⟩⟩, hh5, owns_tight ho5, hb5⟩
                  · go_wp2_with (first
                      | (at_mapUpdate; refine wpList_mapUpdate_own _ rfl _ _ _ 30 rfl 3 3 law3 Try.underlying30 _ cm _ D1 rfl ho1 hsz1 _ _ _ rfl rfl hkp _ [] (plainElem_int Try.underlying3 (wrap64_wf _)) ?_; intro w5 ho5 hg5; have hrun5 := look1 w5 cm _ (D1.put (ky p) (lit64 (wrap64 (c + 1)))) p (wrap64 (c + 1)) ho5 hwi (atKey_put_same ho1.isMap (isKey p) _ _))
                      | (at_delete; refine wpList_delete_own _ rfl _ _ 30 3 rfl 3 law3 Try.underlying30 _ cm _ _ rfl ho5 _ _ rfl hkp ?_; intro w6 ho6 hg6))
                    have hh5 := hh1.grown hg5 (by simp; omega) (by simp; omega)
                    have hb5 : Hid (Below w.heap.size w w5) := hb1.out.grown hg5 hb1.out.size (fun j e => by cases e; omega)
                    go_meet
                    exact ⟨_, true, rfl, Or.inl ⟨hn, D1, c, he.out, hat'.out, hwc, Or.inr ⟨by omega, rfl, rfl⟩⟩, hh5.grown hg6.grown (by simp; omega) (by simp; omega), owns_tight ho6, hb5.out.grown hg6.grown hb5.out.size (fun j e => by cases e; omega)⟩
              · cases hhas : Maps.has D (ky p)
                all_goals
                  rw [hhas] at hrunx
                  have hsz : Maps.has D (ky p) = false → (Maps.size D : Int) < 32 := by simp at hno; intro h; have := hno h; omega
                  have hev : Hid (Evict D p D) := evict_not hno
                  try simp only [hhas, true_implies] at hsz
                  clear hno hhas
                  go_upto_if 63 with fail
                  go_cut [] (fun wc => ∃ D1, Hid (Evict D p D1) ∧ HotIs wc sb bm n D ∧ wc.ownsMap Try.prog 3 (plainElem Try.prog 3) cm (Maps.size D1) D1 ∧ Maps.size D1 < maxLen ∧ Hid (Below w.heap.size w wc))
                  case first =>
                    go_wp2_with fail
                    go_meet
                    exact ⟨D, hev, hh, ho, by omega, hb⟩
                  case rest =>
                    obtain ⟨D1, he, hh1, ho1, hsz1, hb1⟩ := hcut
                    obtain ⟨c, hrun, hat, hwc⟩ := ho1.lookup_int law3 Try.underlying30 Try.underlying3 (zero3 _) hkp
                    have hat' := Lib.hid hat
                    clear hat
                    by_cases hc : wrap64 (c + 1) < n
                    · go_wp2_with (first
                        | (at_mapUpdate; refine wpList_mapUpdate_own _ rfl _ _ _ 30 rfl 3 3 law3 Try.underlying30 _ cm _ D1 rfl ho1 hsz1 _ _ _ rfl rfl hkp _ [] (plainElem_int Try.underlying3 (wrap64_wf _)) ?_; intro w5 ho5 hg5; have hrun5 := look1 w5 cm _ (D1.put (ky p) (lit64 (wrap64 (c + 1)))) p (wrap64 (c + 1)) ho5 hwi (atKey_put_same ho1.isMap (isKey p) _ _)))
                      have hh5 := hh1.grown hg5 (by simp; omega) (by simp; omega)
                      have hb5 : Hid (Below w.heap.size w w5) := hb1.out.grown hg5 hb1.out.size (fun j e => by cases e; omega)
                      go_meet
                      exact ⟨_, false, rfl, Or.inl ⟨hn, D1, c, he.out, hat'.out, hwc, Or.inl ⟨by omega, rfl, rfl⟩⟩, hh5, owns_tight ho5, hb5⟩
                    · go_wp2_with (first
                        | (at_mapUpdate; refine wpList_mapUpdate_own _ rfl _ _ _ 30 rfl 3 3 law3 Try.underlying30 _ cm _ D1 rfl ho1 hsz1 _ _ _ rfl rfl hkp _ [] (plainElem_int Try.underlying3 (wrap64_wf _)) ?_; intro w5 ho5 hg5; have hrun5 := look1 w5 cm _ (D1.put (ky p) (lit64 (wrap64 (c + 1)))) p (wrap64 (c + 1)) ho5 hwi (atKey_put_same ho1.isMap (isKey p) _ _))
                        | (at_delete; refine wpList_delete_own _ rfl _ _ 30 3 rfl 3 law3 Try.underlying30 _ cm _ _ rfl ho5 _ _ rfl hkp ?_; intro w6 ho6 hg6))
                      have hh5 := hh1.grown hg5 (by simp; omega) (by simp; omega)
                      have hb5 : Hid (Below w.heap.size w w5) := hb1.out.grown hg5 hb1.out.size (fun j e => by cases e; omega)
                      go_meet
                      exact ⟨_, true, rfl, Or.inl ⟨hn, D1, c, he.out, hat'.out, hwc, Or.inr ⟨by omega, rfl, rfl⟩⟩, hh5.grown hg6.grown (by simp; omega) (by simp; omega), owns_tight ho6, hb5.out.grown hg6.grown hb5.out.size (fun j e => by cases e; omega)⟩
            · go_wp2_with fail
              go_meet
              exact ⟨D, false, rfl, Or.inr ⟨by omega, rfl, rfl⟩, hh, ho, hb⟩
          case rest =>
            obtain ⟨D', b, rfl, hc, hh1, ho1, hb1⟩ := hcut
            by_cases hn : 0 < n
            · have hp : Hid (Passed D n p b D') := hc.out.elim (fun h => h.2) (fun h => absurd h.1 (by omega))
              go_wp2_with fail
              refine (pass_any sb bm n p D _ hh1 hn hwi hms).mono ?_
              rintro e w4 ⟨b', D2, hp', rfl, hh4, hg4⟩
              obtain ⟨rfl, rfl⟩ := passed_unique hp.out hp'
              have hF4 : Hid (Fine D' (i + 1)) := fine_passed hF.out (by omega) hp'
              clear hp'
              have hb4 : Hid (Below w.heap.size w w4) := hb1.out.grown hg4 hb1.out.size (fun j e => by cases e; omega)
              have ho4 := ho1.kept hg4 (by simp; omega)
              cases b
              all_goals
                go_wp2_with fail
                go_meet
                exact ⟨D', hh4, ho4, hF4, hb4⟩
            · obtain ⟨rfl, rfl⟩ : b = false ∧ D' = D := hc.out.elim (fun h => absurd h.1 hn) (fun h => h.2)
              go_wp2_with fail
              refine (pass_cold sb bm n p D' _ hh1 (by omega)).mono ?_
              rintro e w4 ⟨rfl, rfl⟩
              go_wp2_with fail
              go_meet
              exact ⟨D', hh1, ho1, fine_mono hF.out (by omega), hb1⟩
        · go_wp2_with fail
          refine (forget_any sb bm n p D _ hh hwi).mono ?_
          rintro e w4 ⟨rfl, hh4, hg4⟩
          have hb4 : Hid (Below w.heap.size w w4) := hb.out.grown hg4.grown hb.out.size (fun j e => by cases e; omega)
          have ho4 := ho.kept hg4.grown (by simp; omega)
          go_wp2_with (first
            | (at_delete; refine wpList_delete_own _ rfl _ _ 30 3 rfl 3 law3 Try.underlying30 _ cm _ _ rfl ho4 _ _ rfl hkp ?_; intro w5 ho5 hg5))
          go_meet
          exact ⟨_, hh4.grown hg5.grown (by simp; omega) (by simp; omega), owns_tight ho5, fine_mono (fine_del hF.out p) (by omega), hb4.out.grown hg5.grown hb4.out.size (fun j e => by cases e; omega)⟩
      case rest =>
        obtain ⟨D', hh1, ho1, hF1, hb1⟩ := hcut
        obtain ⟨c1, hat1⟩ : ∃ c, D'.atKey (ky ask) (lit64 0) = lit64 c := by obtain ⟨c, _, h, _⟩ := ho1.lookup_int law3 Try.underlying30 Try.underlying3 (zero3 _) (keyOf_int_mk Try.underlying3 hask); exact ⟨c, h⟩
        obtain ⟨c2, hat2⟩ : ∃ c, D'.atKey (ky p) (lit64 0) = lit64 c := by obtain ⟨c, _, h, _⟩ := ho1.lookup_int law3 Try.underlying30 Try.underlying3 (zero3 _) hkp; exact ⟨c, h⟩
        have hl1 := look3 wc cm _ D' ask c1 ho1 hask hat1
        have hl2 := look3 wc cm _ D' p c2 ho1 hwi hat2
        have hlen : ∀ m, (Builtin.len_ #[30] 3 #[.map (some cm)]).run Try.prog (wc.drewN m) = .ok (.int .i64 (Maps.size D')) (wc.drewN m) := fun m => World.ownsMap.len (w := wc.drewN m) ho1 Try.underlying30 3
        have hs32 : decide ((32 : Int) < (Maps.size D' : Int)) = false := by have := hF1.out.size; simp; omega
        have Q1 : ∀ m, Calls Try.prog 17 #[.pointer (some ⟨sb, 0, none⟩), .int .i64 ask] (wc.drewN m) fun e w'' => e = .returned (.int .i64 c1) ∧ ∃ m, w'' = wc.drewN m := fun m => quiet_same (count_is sb bm n ask c1 D' _ (hh1.drewN m) hask hat1)
        have Q2 : ∀ m, Calls Try.prog 17 #[.pointer (some ⟨sb, 0, none⟩), .int .i64 p] (wc.drewN m) fun e w'' => e = .returned (.int .i64 c2) ∧ ∃ m, w'' = wc.drewN m := fun m => quiet_same (count_is sb bm n p c2 D' _ (hh1.drewN m) hwi hat2)
        have Q3 : ∀ m, Calls Try.prog 18 #[.pointer (some ⟨sb, 0, none⟩)] (wc.drewN m) fun e w'' => e = .returned (.int .i64 (Maps.size D')) ∧ ∃ m, w'' = wc.drewN m := fun m => quiet_same (len_any sb bm n D' _ (hh1.drewN m))
        have HQ1 := Lib.hid Q1
        have HQ2 := Lib.hid Q2
        have HQ3 := Lib.hid Q3
        clear Q1 Q2 Q3 hat1 hat2
        go_wp2_with fail
        go_quiet ((first | (go_at_call_of 17 (Value.int IntKind.i64 ask); exact HQ1.out _) | (go_at_call_of 17 (Value.int IntKind.i64 p); exact HQ2.out _) | (go_at_call 18; exact HQ3.out _)))
        go_wp2
        go_roundg (len - (i + 1))
        case rel => exact ⟨i + 1, D', rfl, by go_num, by omega, hh1, ho1, hF1, below_drewN hb1.out _⟩
        case measure => have := Hg.out; omega
    · go_wp2_with fail
      refine (forget_nil 1 _).mono ?_
      rintro e w4 ⟨rfl, rfl⟩
      go_wp2_with fail
      refine (pass_nil 1 _).mono ?_
      rintro e w4 ⟨rfl, rfl⟩
      go_wp2_with fail
      refine (count_nil 1 _).mono ?_
      rintro e w4 ⟨rfl, rfl⟩
      go_wp2_with fail
      refine (len_nil _).mono ?_
      rintro e w4 ⟨rfl, rfl⟩
      go_wp2_with fail
      go_ret
      exact ⟨rfl, hb.out⟩

end Go.Proofs.Ytfoogcdpllkeoaa.Hot
