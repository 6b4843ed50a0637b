/-
  Lemmas on the way, for every input that they name: RvD.
-/
import Derived.Laws.IdiomStrings
import Derived.Test.YtndjbjhgkggeiaaQ10
import Derived.Test.YtndjbjhgkggeiaaQ16
import Derived.Test.YtndjbjhgkggeiaaQ17
set_option linter.unusedVariables false
set_option linter.unusedSimpArgs false
set_option linter.deprecated false
namespace Go.Proofs.Ytndjbjhgkggeiaa.Rv
open Go.RowKit Go.Proofs.Ytndjbjhgkggeiaa.Wv
theorem ups_get (s : ByteArray) (j : Nat) (hj : j < (ups s).length) : (ups s)[j] = up (s.data.toList.getD j 0) := by
  have hj2 : j < s.data.toList.length := by unfold ups at hj; rwa [List.length_map] at hj
  have h : (ups s)[j]? = some (up (s.data.toList.getD j 0)) := by
    unfold ups
    rw [List.getElem?_map, List.getD, List.getElem?_eq_getElem hj2]
    rfl
  exact Option.some.inj ((List.getElem?_eq_getElem hj).symm.trans h)
def GrAt (w : World) (g : Nat) (s : ByteArray) (i : Nat) : Prop :=
  ∀ j, j < s.size → w.cell? ⟨g, j, none⟩ = some (.int .u8 (((if j < i then up (s.data.toList.getD j 0) else s.data.toList.getD j 0).toNat : Int))) ∧ w.frozen? ⟨g, j, none⟩ = false
theorem GrAt.step {w : World} {g i : Nat} {s : ByteArray} (h : GrAt w g s i) (hi : i < s.size) : GrAt (w.setCell ⟨g, i, none⟩ (.int .u8 ((up (s.data.toList.getD i 0)).toNat : Int))) g s (i + 1) := by
  intro j hj
  have hf : (w.setCell ⟨g, i, none⟩ (.int .u8 ((up (s.data.toList.getD i 0)).toNat : Int))).frozen? ⟨g, j, none⟩ = false := by
    rw [← (h j hj).2]
    exact World.frozen?_setCell _ _ _ _
  refine ⟨?_, hf⟩
  by_cases e : j = i
  · subst e
    rw [if_pos (Nat.lt_succ_self j)]
    exact World.cell?_setCell_same _ _ _ (h j hj).1
  · rw [World.cell?_setCell_other _ _ _ _ (by first | (simp; done) | (simp; omega)), (h j hj).1]
    by_cases e2 : j < i
    · rw [if_pos e2, if_pos (by omega)]
    · rw [if_neg e2, if_neg (by omega)]
theorem GrAt.same {w : World} {g i : Nat} {s : ByteArray} (h : GrAt w g s i) (hi : i < s.size) (hu : up (s.data.toList.getD i 0) = s.data.toList.getD i 0) : GrAt w g s (i + 1) := by
  intro j hj
  refine ⟨?_, (h j hj).2⟩
  rw [(h j hj).1]
  by_cases e : j = i
  · subst e
    rw [if_pos (Nat.lt_succ_self j), if_neg (Nat.lt_irrefl j), hu]
  · by_cases e2 : j < i
    · rw [if_pos e2, if_pos (by omega)]
    · rw [if_neg e2, if_neg (by omega)]
set_option maxHeartbeats 4000000 in
set_option maxRecDepth 100000 in
theorem great0_any (s : ByteArray) (w : World) (hs : s.size ≤ 100000) :
    Calls Try.prog 70 #[.string s] w fun e w' => e = .returned (.string ⟨(ups s).toArray⟩) ∧ Below w.heap.size w w' := by
  have hconv := run_bytes_of_string (P := Try.prog) w 9 78 5 s Try.underlying9 Try.underlying78 Try.underlying5
  generalize grownCap w s.size 0 5 = cp at *
  have hG : GrAt (w.alloc (.cells (bytesRow s cp) 5 ((bytesRow s cp).size, (bytesRow s cp).size + 1))).drew w.heap.size s 0 := by
    intro j hj
    have hb : j < (bytesRow s cp).size := by
      unfold bytesRow
      simp
      have : s.size = s.data.size := rfl
      omega
    refine ⟨?_, ?_⟩
    · show (w.alloc _).cell? _ = _
      rw [World.cell?_alloc_mark, bytesRow_at s cp j hj, if_neg (Nat.not_lt_zero j)]
      have hj2 : j < s.data.toList.length := hj
      simp [List.getD, hj2]
      rw [Array.getElem?_eq_getElem hj]
      rfl
    · show (w.alloc _).frozen? _ = _
      rw [World.frozen?_alloc_mark]
      simp
      omega
  have hB : Below w.heap.size w (w.alloc (.cells (bytesRow s cp) 5 ((bytesRow s cp).size, (bytesRow s cp).size + 1))).drew := below_of_draw ((Below.refl _ _).alloc (Nat.le_refl _) _) 1
  have HG := Lib.hid hG
  have HB := Lib.hid hB
  clear hG hB
  go_enter Try.func70, Try.ntmps70
  go_wp2_with fail
  clear hconv
  generalize (w.alloc (.cells (bytesRow s cp) 5 ((bytesRow s cp).size, (bytesRow s cp).size + 1))).drew = wb at *
  go_loopg [4] s.size (fun gg v wr => ∃ i : Nat, gg = s.size - i ∧ v = .int .i64 (i : Int) ∧ Hid (i ≤ s.size) ∧ Hid (GrAt wr w.heap.size s i) ∧ Hid (Below w.heap.size w wr))
  case atStart => exact ⟨0, rfl, rfl, Nat.zero_le _, HG, HB⟩
  case round =>
    obtain ⟨i, hg, rfl, Hi, HGi, HBi⟩ := hrel
    have Hg := Lib.hid hg
    clear hg HG HB
    by_cases hlt : i < s.size
    · have x0 := (HGi.out i hlt).1
      have f0 := (HGi.out i hlt).2
      rw [if_neg (Nat.lt_irrefl i)] at x0
      have Hst := Lib.hid (HGi.out.step hlt)
      have Hsa := Lib.hid (fun hu => HGi.out.same hlt hu)
      have Hlt := Lib.hid hlt
      have HBs := Lib.hid (fun v => HBi.out.setCell (p := ⟨w.heap.size, i, none⟩) (Nat.le_refl _) v)
      have g1 : (i : Int) < (s.size : Int) := by omega
      generalize s.data.toList.getD i 0 = c at *
      by_cases hc : 97 ≤ (c.toNat : Int) ∧ (c.toNat : Int) ≤ 122
      · obtain ⟨h1, h2⟩ := hc
        have hu := up_yes c h1 h2
        have hw : IntKind.u8.wrap ((c.toNat : Int) - 32) = (c.toNat : Int) - 32 := by unfold IntKind.wrap; simp [IntKind.bits, IntKind.signed]; omega
        have HU := Lib.hid hu
        clear hu hlt
        go_wp2_with fail
        rw [← HU.out]
        go_roundg (s.size - (i + 1))
        case rel => exact ⟨i + 1, rfl, by go_num, Hlt.out, Hst.out, HBs.out _⟩
        case measure => rw [Hg.out]; have := Hlt.out; omega
      · have hu := up_no c hc
        have HU := Lib.hid hu
        by_cases h1 : 97 ≤ (c.toNat : Int)
        · have h2 : ¬ (c.toNat : Int) ≤ 122 := fun h => hc ⟨h1, h⟩
          clear hu hlt hc
          go_wp2_with fail
          go_roundg (s.size - (i + 1))
          case rel => exact ⟨i + 1, rfl, by go_num, Hlt.out, Hsa.out HU.out, HBi⟩
          case measure => rw [Hg.out]; have := Hlt.out; omega
        · clear hu hlt hc
          go_wp2_with fail
          go_roundg (s.size - (i + 1))
          case rel => exact ⟨i + 1, rfl, by go_num, Hlt.out, Hsa.out HU.out, HBi⟩
          case measure => rw [Hg.out]; have := Hlt.out; omega
    · have hi : i = s.size := by have := Hi.out; omega
      have hl : (ups s).length = s.size := by unfold ups; rw [List.length_map]; rfl
      have hback := run_convert_bytes_back (P := Try.prog) wr 78 9 5 ⟨w.heap.size, 0, none⟩ cp (ups s) Try.underlying78 Try.underlying5 Try.underlying9 (fun j hj => by
        rw [Go.WideShapes.add_plain, Nat.zero_add, (HGi.out j (by omega)).1, if_pos (by omega)]
        have hj2 : j < s.data.toList.length := by have : s.size = s.data.toList.length := rfl; omega
        rw [ups_get s j hj])
      rw [hl] at hback
      have g1 : ¬ (i : Int) < (s.size : Int) := by omega
      clear hi hl hlt
      go_wp2_with fail
      go_ret
      exact ⟨rfl, HBi.out⟩
theorem great_any (s : ByteArray) (w : World) (hs : s.size ≤ 100000) :
    Calls Try.prog 42 #[.string s] w fun e w' => e = .returned (.string ⟨(ups s).toArray⟩) ∧ Below w.heap.size w w' := by
  have HG := Lib.hid (great0_any s w hs)
  go_enter Try.func42, Try.ntmps42
  go_wp2_with fail
  refine HG.out.mono ?_
  rintro e w' ⟨rfl, k⟩
  go_wp2_with fail
  go_ret
  exact ⟨rfl, k⟩
set_option maxHeartbeats 4000000 in
set_option maxRecDepth 100000 in
theorem news_any (len cap : Nat) (A : Option Addr) (M : List Int) (here : Int) (w : World) (hr : Reads w w.heap.size 1 A M.length (M.map (Value.int .i64))) (hs : M.length ≤ 5000) (h : Nat) (hh : (h : Int) = min (max here 0) M.length) :
    Calls Try.prog 7 #[.slice A M.length cap, .int .i64 here] w fun e w' => ∃ a : At, e = .returned (.pointer (some ⟨a.sb, 0, none⟩)) ∧ RvIs w' w.heap.size a M h [] ∧ Below w.heap.size w w' := by
  obtain ⟨i0, hi0, hz0, hz1, hz2⟩ := info_parts BkI.infoE
  have hmm : (if here < 0 then 0 else here) = max here 0 := by omega
  go_enter Try.func7, Try.ntmps7
  go_wp2_with (at_builtin; refine wpList_append_any _ rfl _ _ 22 rfl w.heap.size 3 i0 (.int .i64 0) 1 8 Try.underlying22 hi0 hz0 hz1 hz2 rfl (by decide) (.slice none 0 0) 0 [] rfl (World.ownsRow_nil _ _ _ _) w.heap.size A M.length cap (M.map (Value.int .i64)) rfl hr (fun u hu => by simp at hu; obtain ⟨x, _, rfl⟩ := hu; rfl) (by unfold maxLen; omega) (by omega) (Nat.le_refl _) ?_)
  intro v' w2 ho2 hg2 _
  obtain ⟨MA, mcap, rfl⟩ := own_slice ho2
  have HH0 := Lib.hid hh
  have hb2 : Below w.heap.size w w2 := (Below.refl _ _).grown hg2 (Nat.le_refl _) (fun k hk => by simp [Value.ownBlock] at hk)
  have HO := Lib.hid ho2
  have HB2 := Lib.hid hb2
  clear ho2 hg2 hb2 hmm
  go_wp2_with fail
  rw [← HH0.out]
  go_ret
  refine ⟨⟨w2.heap.size, MA, mcap, none, 0⟩, rfl, { blk := ?_, base := HB2.out.size, mem := ?_, opn := World.ownsRow_nil _ _ _ _, here := by omega, small := hs, few := Nat.zero_le _ }, HB2.out.alloc HB2.out.size _⟩
  · exact Blk.new _ _ _
  · exact own_touch HO.out (alloc_touch w2 _ (fun _ => False)) (fun k hk => id)
end Go.Proofs.Ytndjbjhgkggeiaa.Rv
