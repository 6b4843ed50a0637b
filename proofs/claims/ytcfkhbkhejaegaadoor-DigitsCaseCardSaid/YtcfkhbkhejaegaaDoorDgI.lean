/-
  Chapter 3 (digits): the walk of DigitsCase.
-/
import Derived.Test.YtcfkhbkhejaegaaDoorDgH
import Derived.Laws.IdiomStrings
namespace Go.Proofs.YtcfkhbkhejaegaaDoor.Dg
open Go.RowKit

/-- A []byte that was made of a string (the model marks the end of such a row). -/
def BR (w : World) (g : Nat) (l : List UInt8) : Prop :=
  ∃ (C : Array Value) (N : Nat), w.heap[g]? = some (.cells C 5 (N, N + 1)) ∧ l.length ≤ N ∧ l.length ≤ C.size ∧ ∀ j (h : j < l.length), C[j]? = some (.int .u8 (l[j].toNat : Int))

theorem BR.cell {w : World} {g : Nat} {l : List UInt8} (H : BR w g l) {j : Nat} (hj : j < l.length) : w.cell? ⟨g, j, none⟩ = some (.int .u8 (l[j].toNat : Int)) ∧ w.frozen? ⟨g, j, none⟩ = false := by
  obtain ⟨C, N, h1, h2, _, h3⟩ := H
  refine ⟨?_, ?_⟩
  · rw [cell_of_row w g j C _ _ h1]
    exact h3 j hj
  · unfold World.frozen?
    rw [h1]
    simp
    omega
theorem BR.put {w : World} {g : Nat} {l : List UInt8} (H : BR w g l) {j : Nat} (hj : j < l.length) (x : UInt8) : BR (w.setCell ⟨g, j, none⟩ (.int .u8 (x.toNat : Int))) g (l.set j x) := by
  obtain ⟨C, N, h1, h2, h4, h3⟩ := H
  refine ⟨C.setIfInBounds j (.int .u8 (x.toNat : Int)), N, ?_, by simpa using h2, by simpa using h4, fun i hi => ?_⟩
  · simp [World.setCell, Array.getElem?_modify, h1]
  · simp only [List.length_set] at hi
    by_cases hij : j = i
    · subst hij
      simp [Array.getElem?_setIfInBounds_self, show j < C.size by omega]
    · rw [Array.getElem?_setIfInBounds_ne hij, h3 i hi]
      simp [List.getElem_set, hij]

theorem below_drw {B : Nat} {w w' : World} (h : Below B w.drew w') : Below B w w' := ⟨h.os, h.tape, h.output, h.size, h.block⟩
theorem convS (l : List UInt8) (hl : l.length ≤ 100000) (w : World) : ∃ cap w2, (convert 9 29 (.string ⟨l.toArray⟩)).run Tryd.prog w = .ok (.slice (some ⟨w.heap.size, 0, none⟩) l.length cap) w2 ∧ BR w2 w.heap.size l ∧ Below w.heap.size w w2 := by
  refine ⟨_, _, run_bytes_of_string w _ _ _ ⟨l.toArray⟩ Tryd.underlying9 Tryd.underlying29 Tryd.underlying5, ⟨_, _, heap_alloc_new w.drew _, ?_, ?_, fun j hj => ?_⟩, below_drw ((Below.refl w.heap.size w.drew).alloc (Nat.le_refl _) _)⟩
  · simp [bytesRow]
  · simp [bytesRow]
  · have := bytesRow_at ⟨l.toArray⟩ (grownCap w (⟨l.toArray⟩ : ByteArray).size 0 5) j (by simpa using hj)
    simpa using this
theorem convB {w : World} {g : Nat} {l : List UInt8} (H : BR w g l) (cap : Nat) : (convert 29 9 (.slice (some ⟨g, 0, none⟩) l.length cap)).run Tryd.prog w = .ok (.string ⟨l.toArray⟩) w :=
  run_convert_bytes_back w _ _ _ ⟨g, 0, none⟩ cap l Tryd.underlying29 Tryd.underlying5 Tryd.underlying9 (fun j hj => by rw [Go.WideShapes.add_plain, Nat.zero_add]; exact (H.cell hj).1)

def lowTo (l : List UInt8) (k : Nat) : List UInt8 := (l.take k).map low ++ l.drop k
theorem lowTo_len (l : List UInt8) (k : Nat) (hk : k ≤ l.length) : (lowTo l k).length = l.length := by simp [lowTo]; omega
theorem lowTo_get (l : List UInt8) (k i : Nat) (hk : k ≤ l.length) : (lowTo l k)[i]? = if i < k then (l[i]?).map low else l[i]? := by
  unfold lowTo
  rw [List.getElem?_append]
  simp only [List.length_map, List.length_take, Nat.min_eq_left hk]
  split
  · rename_i h
    rw [List.getElem?_map, List.getElem?_take, if_pos h]
  · rename_i h
    rw [List.getElem?_drop]
    congr 1
    omega
theorem lowTo_at (l : List UInt8) (k : Nat) (hk : k < l.length) (h : k < (lowTo l k).length) : (lowTo l k)[k] = l[k] := by
  have := lowTo_get l k k (Nat.le_of_lt hk)
  rw [if_neg (by omega), List.getElem?_eq_getElem h, List.getElem?_eq_getElem hk] at this
  exact Option.some.inj this
theorem lowTo_set (l : List UInt8) (k : Nat) (hk : k < l.length) : (lowTo l k).set k (low l[k]) = lowTo l (k + 1) := by
  apply List.ext_getElem?
  intro i
  have hlen := lowTo_len l k (Nat.le_of_lt hk)
  rw [List.getElem?_set, lowTo_get l (k + 1) i hk, lowTo_get l k i (Nat.le_of_lt hk)]
  by_cases h : k = i
  · subst h
    rw [if_pos rfl, if_pos (by omega), if_pos (by omega), List.getElem?_eq_getElem hk]
    rfl
  · rw [if_neg h]
    by_cases h2 : i < k
    · rw [if_pos h2, if_pos (by omega)]
    · rw [if_neg h2, if_neg (by omega)]
theorem lowTo_keep (l : List UInt8) (k : Nat) (hk : k < l.length) (h : low l[k] = l[k]) : lowTo l k = lowTo l (k + 1) := by
  apply List.ext_getElem?
  intro i
  rw [lowTo_get l (k + 1) i hk, lowTo_get l k i (Nat.le_of_lt hk)]
  by_cases h2 : i < k
  · rw [if_pos h2, if_pos (by omega)]
  · rw [if_neg h2]
    by_cases h3 : i = k
    · subst h3
      rw [if_pos (by omega), List.getElem?_eq_getElem hk]
      simp [h]
    · rw [if_neg (by omega)]
theorem lowTo_all (l : List UInt8) : lowTo l l.length = l.map low := by simp [lowTo]
theorem lowTo_none (l : List UInt8) : lowTo l 0 = l := by simp [lowTo]

theorem low_yes (c : UInt8) (h : 65 ≤ (c.toNat : Int)) (h' : (c.toNat : Int) ≤ 90) : ((low c).toNat : Int) = (c.toNat : Int) + 32 := by
  unfold low
  rw [if_pos ⟨by omega, by omega⟩, UInt8.toNat_add]
  simp
  omega
theorem low_no (c : UInt8) (h : ¬ (65 ≤ (c.toNat : Int) ∧ (c.toNat : Int) ≤ 90)) : low c = c := by
  unfold low
  rw [if_neg (by omega)]

theorem quote_str (c : UInt8) : (⟨#[39]⟩ : ByteArray) ++ ⟨[c].toArray⟩ ++ ⟨#[39]⟩ = ⟨[39, c, 39].toArray⟩ := by rfl

set_option maxRecDepth 100000 in
theorem case_bad (s : ByteArray) (b c : Int) (hs : s.size ≤ maxLen) (hb : 80 < s.size ∨ b < 2 ∨ 36 < b) (w : World) (hT : Tabs w) :
    Calls Tryd.prog 5 #[.string s, .int .i64 b, .int .u8 c] w fun e w' => e = .returned (.bool true) ∧ Below w.heap.size w w' := by
  have HA := Lib.hid (alive_any w hT)
  clear hT
  unfold maxLen at hs
  by_cases h2 : 80 < s.size
  rotate_left
  by_cases h3 : b < 2
  rotate_left
  have h4 : 36 < b := by omega
  all_goals
    clear hb
    go_enter Tryd.func5, Tryd.ntmps5
    go_wp2_with fail
    refine HA.out.mono ?_
    rintro e w1 ⟨rfl, hb1⟩
    go_wp2_with fail
    go_ret
    exact ⟨rfl, hb1⟩

set_option maxHeartbeats 2000000 in
set_option maxRecDepth 100000 in
theorem case_walk (l : List UInt8) (b : Int) (c : UInt8) (hl : l.length ≤ 80) (hb : 2 ≤ b) (hb' : b ≤ 36) (w : World) (hT : Tabs w) :
    Calls Tryd.prog 5 #[.string ⟨l.toArray⟩, .int .i64 b, .int .u8 (c.toNat : Int)] w fun e w' => e = .returned (.bool true) ∧ Below w.heap.size w w' := by
  have HT := Lib.hid hT
  have HA := Lib.hid (alive_any w hT)
  clear hT
  have hc8 : (c.toNat : Int) ≤ 255 := by have := c.toNat_lt; omega
  have d1 : decide (b < 2) = false := by simpa using hb
  have d2 : decide (36 < b) = false := by simpa using hb'
  have d3 : decide (80 < l.length) = false := by simp; omega
  go_enter Tryd.func5, Tryd.ntmps5
  go_wp2_with fail
  refine HA.out.mono ?_
  rintro e w1 ⟨rfl, hb1⟩
  have HB1 := Lib.hid hb1
  obtain ⟨cap, w2, hcv, hBR, hb2⟩ := convS l (by omega) w1
  have HB2 := Lib.hid (HB1.out.trans (hb2.mono HB1.out.size))
  have hg : w.heap.size ≤ w1.heap.size := HB1.out.size
  have HBR : Hid (BR w2 w1.heap.size (lowTo l 0)) := by show BR _ _ _; rw [lowTo_none]; exact hBR
  clear hb1 hb2 hBR HA
  generalize w1.heap.size = g at *
  go_wp2_with fail
  clear hcv
  go_loopg [8] l.length (fun gh vi wr => ∃ k : Nat, gh = l.length - k ∧ vi = .int .i64 k ∧ k ≤ l.length ∧ Hid (BR wr g (lowTo l k)) ∧ Hid (Below w.heap.size w wr))
  case atStart => exact ⟨0, rfl, rfl, by omega, HBR, HB2⟩
  case round =>
    obtain ⟨k, hgh, rfl, hk, HR, HB⟩ := hrel
    have Hg := Lib.hid hgh
    clear hgh HBR HB2
    by_cases hlt : k < l.length
    · have hlen := lowTo_len l k hk
      obtain ⟨c1, f1⟩ := HR.out.cell (j := k) (by omega)
      rw [lowTo_at l k hlt] at c1
      have hlt' : (k : Int) < (l.length : Int) := by omega
      have hxb : (l[k].toNat : Int) ≤ 255 := by have := l[k].toNat_lt; omega
      by_cases hx : 65 ≤ (l[k].toNat : Int) ∧ (l[k].toNat : Int) ≤ 90
      · obtain ⟨hx1, hx2⟩ := hx
        have HP := HR.out.put (j := k) (by omega) (low l[k])
        rw [lowTo_set l k hlt, low_yes _ hx1 hx2] at HP
        have HP := Lib.hid HP
        have HB' : Hid (Below w.heap.size w (wr.setCell ⟨g, k, none⟩ (.int .u8 ((l[k].toNat : Int) + 32)))) := HB.out.setCell (p := ⟨g, k, none⟩) hg _
        clear HR hlen
        generalize l[k] = x at *
        go_wp2_with fail
        go_roundg (l.length - (k + 1))
        case rel => exact ⟨k + 1, rfl, by go_num, by omega, HP, HB'⟩
        case measure => have := Hg.out; omega
      · have HP : Hid (BR wr g (lowTo l (k + 1))) := by
          show BR _ _ _
          rw [← lowTo_keep l k hlt (low_no _ hx)]
          exact HR.out
        clear HR hlen
        generalize l[k] = x at *
        by_cases hx1 : 65 ≤ (x.toNat : Int)
        · have hx2 : 90 < (x.toNat : Int) := by omega
          clear hx
          go_wp2_with fail
          go_roundg (l.length - (k + 1))
          case rel => exact ⟨k + 1, rfl, by go_num, by omega, HP, HB⟩
          case measure => have := Hg.out; omega
        · clear hx
          go_wp2_with fail
          go_roundg (l.length - (k + 1))
          case rel => exact ⟨k + 1, rfl, by go_num, by omega, HP, HB⟩
          case measure => have := Hg.out; omega
    · obtain rfl : k = l.length := by omega
      have hlen := lowTo_len l l.length (Nat.le_refl _)
      have hcb := fun W (H : BR W g (lowTo l l.length)) => convB H cap
      rw [lowTo_all] at hcb
      simp only [List.length_map] at hcb
      have hr0 := HR.out
      rw [lowTo_all] at hr0
      have HR0 := Lib.hid hr0
      have HCB : Hid (∀ W, BR W g (l.map low) → (convert 29 9 (.slice (some ⟨g, 0, none⟩) l.length cap)).run Tryd.prog W = .ok (.string ⟨(l.map low).toArray⟩) W) := hcb
      have HG1 := Lib.hid (fun W hTW => get_any l b (by omega) W hTW)
      have HG2 := Lib.hid (fun W hTW => get_any (l.map low) b (by simp; omega) W hTW)
      have hq3 := fun W hTW => get_any [39, c, 39] b (by simp) W hTW
      rw [get_quote c b hb hb'] at hq3
      have HG3 := Lib.hid hq3
      have HL := Lib.hid (get_low l b)
      clear HR hlen hcb hr0 hq3
      have HRl : Hid (∀ {W' : World}, Below wr.heap.size wr W' → BR W' g (l.map low)) := fun hb => by
        obtain ⟨C, N, h1, h2⟩ := HR0.out
        exact ⟨C, N, (hb.block g (Array.getElem?_eq_some_iff.1 h1).1).trans h1, h2⟩
      clear HR0
      obtain ⟨m, hm⟩ : ∃ m, m = l.map low := ⟨_, rfl⟩
      rw [← hm] at HCB HG2 HRl HL
      clear hm
      by_cases h3 : l.length = 3
      · obtain ⟨x0, x1, x2, rfl⟩ := len3 l h3
        have g0 : ∀ h, ((⟨#[x0, x1, x2]⟩ : ByteArray)[0]'h) = x0 := fun _ => rfl
        clear h3
        simp only [List.length_cons, List.length_nil, Nat.zero_add, Nat.reduceAdd] at HCB
        by_cases h0 : x0 = 39
        · subst h0
          generalize getV [39, x1, x2] b = G at *
          generalize getV m b = G' at *
          go_wp2_with fail
          refine (HG1.out _ (HT.out.below HB.out)).mono ?_
          rintro e w3 ⟨rfl, hb3⟩
          have HB3 := Lib.hid (HB.out.trans (hb3.mono HB.out.size))
          have HR3 := HRl.out hb3
          have hcv3 := HCB.out w3 HR3
          clear hb3 HG1
          go_wp2_with fail
          refine (HG2.out _ (HT.out.below HB3.out)).mono ?_
          rintro e w4 ⟨rfl, hb4⟩
          have HB4 := Lib.hid (HB3.out.trans (hb4.mono HB3.out.size))
          have hcc := conv_bytes (w := w4.alloc (.cells #[.int .u8 (c.toNat : Int)] 5)) (B := w4.heap.size) (v := .slice (some ⟨w4.heap.size, 0, none⟩) 1 1) (l := [c]) (World.ownsRow_lit w4 #[.int .u8 (c.toNat : Int)] 1 (Nat.le_refl _) (by decide) rfl)
          have hqs := quote_str c
          have HBc : Hid (Below w.heap.size w (w4.alloc (.cells #[.int .u8 (c.toNat : Int)] 5))) := HB4.out.alloc HB4.out.size _
          clear hb4 HG2 HCB HRl HR3 hcv3
          go_wp2_with fail
          refine (HG3.out _ (HT.out.below HBc.out)).mono ?_
          rintro e w5 ⟨rfl, hb5⟩
          have HB5 := Lib.hid (HBc.out.trans (hb5.mono HBc.out.size))
          clear hb5 HG3 hcc hqs HBc
          go_wp2_with fail
          go_ret
          exact ⟨rfl, HB5.out⟩
        · have n0 : ((x0.toNat : Int) == 39) = false := by rw [b8 x0 39 39 rfl]; simpa using h0
          have he := HL.out (by simpa using h0)
          rw [he] at HG2
          clear he HL
          generalize getV [x0, x1, x2] b = G at *
          go_wp2_with fail
          refine (HG1.out _ (HT.out.below HB.out)).mono ?_
          rintro e w3 ⟨rfl, hb3⟩
          have HB3 := Lib.hid (HB.out.trans (hb3.mono HB.out.size))
          have HR3 := HRl.out hb3
          have hcv3 := HCB.out w3 HR3
          clear hb3 HG1
          go_wp2_with fail
          refine (HG2.out _ (HT.out.below HB3.out)).mono ?_
          rintro e w4 ⟨rfl, hb4⟩
          have HB4 := Lib.hid (HB3.out.trans (hb4.mono HB3.out.size))
          have hcc := conv_bytes (w := w4.alloc (.cells #[.int .u8 (c.toNat : Int)] 5)) (B := w4.heap.size) (v := .slice (some ⟨w4.heap.size, 0, none⟩) 1 1) (l := [c]) (World.ownsRow_lit w4 #[.int .u8 (c.toNat : Int)] 1 (Nat.le_refl _) (by decide) rfl)
          have hqs := quote_str c
          have HBc : Hid (Below w.heap.size w (w4.alloc (.cells #[.int .u8 (c.toNat : Int)] 5))) := HB4.out.alloc HB4.out.size _
          clear hb4 HG2 HCB HRl HR3 hcv3
          go_wp2_with fail
          refine (HG3.out _ (HT.out.below HBc.out)).mono ?_
          rintro e w5 ⟨rfl, hb5⟩
          have HB5 := Lib.hid (HBc.out.trans (hb5.mono HBc.out.size))
          clear hb5 HG3 hcc hqs HBc
          go_wp2_with fail
          go_ret
          exact ⟨rfl, HB5.out⟩
      · have n3 : ((l.length : Int) == 3) = false := by rw [beq_eq_false_iff_ne]; omega
        have he := HL.out (fun h => h3 h.1)
        rw [he] at HG2
        clear he HL h3
        generalize getV l b = G at *
        go_wp2_with fail
        refine (HG1.out _ (HT.out.below HB.out)).mono ?_
        rintro e w3 ⟨rfl, hb3⟩
        have HB3 := Lib.hid (HB.out.trans (hb3.mono HB.out.size))
        have HR3 := HRl.out hb3
        have hcv3 := HCB.out w3 HR3
        clear hb3 HG1
        go_wp2_with fail
        refine (HG2.out _ (HT.out.below HB3.out)).mono ?_
        rintro e w4 ⟨rfl, hb4⟩
        have HB4 := Lib.hid (HB3.out.trans (hb4.mono HB3.out.size))
        have hcc := conv_bytes (w := w4.alloc (.cells #[.int .u8 (c.toNat : Int)] 5)) (B := w4.heap.size) (v := .slice (some ⟨w4.heap.size, 0, none⟩) 1 1) (l := [c]) (World.ownsRow_lit w4 #[.int .u8 (c.toNat : Int)] 1 (Nat.le_refl _) (by decide) rfl)
        have hqs := quote_str c
        have HBc : Hid (Below w.heap.size w (w4.alloc (.cells #[.int .u8 (c.toNat : Int)] 5))) := HB4.out.alloc HB4.out.size _
        clear hb4 HG2 HCB HRl HR3 hcv3
        go_wp2_with fail
        refine (HG3.out _ (HT.out.below HBc.out)).mono ?_
        rintro e w5 ⟨rfl, hb5⟩
        have HB5 := Lib.hid (HBc.out.trans (hb5.mono HBc.out.size))
        clear hb5 HG3 hcc hqs HBc
        go_wp2_with fail
        go_ret
        exact ⟨rfl, HB5.out⟩

theorem case_any (s : ByteArray) (b c : Int) (hs : s.size ≤ maxLen) (hc0 : 0 ≤ c) (hc1 : c ≤ 255) (w : World) (hT : Tabs w) :
    Calls Tryd.prog 5 #[.string s, .int .i64 b, .int .u8 c] w fun e w' => e = .returned (.bool true) ∧ Below w.heap.size w w' := by
  by_cases h : 80 < s.size ∨ b < 2 ∨ 36 < b
  · exact case_bad s b c hs h w hT
  · obtain ⟨x, rfl⟩ : ∃ x : UInt8, c = (x.toNat : Int) := ⟨UInt8.ofNat c.toNat, by simp; omega⟩
    exact case_walk s.data.toList b x (by have : s.data.toList.length = s.size := rfl; omega) (by omega) (by omega) w hT
end Go.Proofs.YtcfkhbkhejaegaaDoor.Dg
