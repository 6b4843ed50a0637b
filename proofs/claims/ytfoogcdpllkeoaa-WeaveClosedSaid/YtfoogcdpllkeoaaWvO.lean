/-
  Chapter 10 (weave): the walk of WeaveClosed.
-/
import Derived.Test.YtfoogcdpllkeoaaWvN
namespace Go.Proofs.Ytfoogcdpllkeoaa.Wv
open Go.RowKit

/-- The numbers that came in. -/
def IntsAt (w : World) (A : Option Addr) (len : Nat) (f : Nat → Int) : Prop :=
  len = 0 ∨ ∃ b off, A = some ⟨b, off, none⟩ ∧ b < w.heap.size ∧ ∀ i, i < len → w.cell? ⟨b, off + i, none⟩ = some (.int .i64 (f i))

set_option maxRecDepth 100000 in
theorem closed_bad (A : Option Addr) (len cap : Nat) (here : Int) (w : World) (hm : len ≤ maxLen) (h : here < 0 ∨ 100 < here ∨ 30 < len) :
    Calls Try.prog 11 #[.slice A len cap, .int .i64 here] w fun e w' => e = .returned (.bool true) ∧ Below w.heap.size w w' := by
  unfold maxLen at hm
  by_cases h5 : 30 < len
  rotate_left
  by_cases h3 : here < 0
  rotate_left
  have h4 : 100 < here := by omega
  all_goals
    clear h
    go_enter Try.func11, Try.ntmps11
    go_wp2_with fail
    refine (alive_any _).mono ?_
    rintro e w1 ⟨rfl, hb⟩
    go_wp2_with fail
    go_ret
    exact ⟨rfl, hb⟩

/-- The index of a loop that goes down to 0, ahead of j rounds. -/
def downTo (j : Nat) : Value := .int .i64 ((j : Int) - 1)

set_option maxHeartbeats 8000000 in
set_option maxRecDepth 100000 in
theorem closed_walk (h0 : Nat) (A0 : Option Addr) (len cap : Nat) (f : Nat → Int) (w : World) (hh : h0 ≤ 100) (hl : len ≤ 30) (hints : IntsAt w A0 len f) :
    Calls Try.prog 11 #[.slice A0 len cap, .int .i64 h0] w fun e w' => e = .returned (.bool true) ∧ Below w.heap.size w w' := by
  obtain ⟨i0, hi, hz0, hz1, hz2⟩ := info_parts info3
  obtain ⟨j0, hj, hy0, hy1, hy2⟩ := info_parts info9
  go_enter Try.func11, Try.ntmps11
  go_wp2_with fail
  refine (alive_any _).mono ?_
  rintro e w1 ⟨rfl, hb1⟩
  go_wp2_with (at_make; refine wpList_make_full _ rfl _ _ 44 rfl w1.heap.size 3 i0 (.int .i64 0) 1 Try.underlying44 hi hz0 hz1 .i64 .i64 1000 1000 1000 rfl rfl rfl rfl (by rw [hz2]; omega) (by unfold maxLen; omega) (Nat.le_refl _) ?_; intro w2 ho2 hg2)
  rw [made_zero] at ho2
  have hlen : (List.replicate 1000 (0 : Int)).length = 1000 := by simp
  have hnew := new_any w1.heap.size (some ⟨w1.heap.size, 0, none⟩) 1000 (List.replicate 1000 0) h0 w2 (by rw [hlen]; exact ho2) (by rw [hlen]; omega) h0 (by rw [hlen]; omega)
  rw [hlen] at hnew
  have HN := Lib.hid hnew
  have hb2 : Hid (Below w.heap.size w w2) := hb1.grown hg2 hb1.size (fun _ e => by cases e)
  clear hnew ho2 hg2 hb1
  refine HN.out.mono ?_
  rintro e w3 ⟨a0, rfl, H3, hb3⟩
  have Hb3 : Hid (Below w.heap.size w w3) := hb2.out.trans (hb3.mono hb2.out.size)
  have hBw : w.heap.size ≤ w2.heap.size := hb2.out.size
  have hlow : Hid (∀ k, a0.blocks k → w.heap.size ≤ k) := fun k hk => Nat.le_trans hBw (H3.low hk).1
  generalize w2.heap.size = B at *
  obtain ⟨sb, hsb⟩ : ∃ sb, sb = a0.sb := ⟨_, rfl⟩
  rw [← hsb]
  have HP : Hid (Pen w w3 B sb ⟨List.replicate 1000 0, h0, []⟩ none 0 [] a0) := ⟨hsb.symm, H3, (fun p hp => by cases hp), hlow.out, World.ownsRow_nil _ _ _ _, (fun k hk => by cases hk), Hb3.out⟩
  have HT : Hid (Tidy h0 0 ⟨List.replicate 1000 0, h0, []⟩ []) := tidy_start h0 hh
  clear H3 hb2 hb3 HN hsb Hb3 hlow hBw
  go_wp2_with fail
  go_loopg [6, 7] len (fun g va vi wr => ∃ (i : Nat) (s : St) (a : At) (A : Option Addr) (c : Nat) (P : List ByteArray), g = len - i ∧ va = .slice A P.length c ∧ vi = .int .i64 i ∧ i ≤ len ∧ P.length ≤ i ∧ Hid (Pen w wr B sb s A c P a) ∧ Hid (Tidy h0 i s P))
  case atStart => exact ⟨0, _, a0, none, 0, [], rfl, rfl, rfl, by omega, by simp, HP, HT⟩
  case round =>
    obtain ⟨i, s, a, A, c, P, hg, rfl, rfl, hi', hP, HP, HT⟩ := hrel
    have Hg := Lib.hid hg
    clear hg
    by_cases hlt : i < len
    · have hAi : ∃ b off, A0 = some ⟨b, off, none⟩ ∧ b < w.heap.size ∧ w.cell? ⟨b, off + i, none⟩ = some (.int .i64 (f i)) := by
        rcases hints with h0' | ⟨b, off, hA, hbl, hcells⟩
        · omega
        · exact ⟨b, off, hA, hbl, hcells i hlt⟩
      obtain ⟨b, off, rfl, hbl, hc⟩ := hAi
      have k0 : wr.cell? ⟨b, off + i, none⟩ = some (.int .i64 (f i)) := (HP.out.bel.cell (p := ⟨b, off + i, none⟩) hbl).trans hc
      generalize f i = x at *
      have HO : Hid (s.O.length ≤ 60) := by have := HT.out.low; show _ ≤ _; omega
      generalize hy : bits BinOp.and IntKind.i64 x 7 = y
      have HY := Lib.hid hy
      clear hy
      by_cases h0 : y = 0
      · have t0 : (bits BinOp.and IntKind.i64 x 7 == 0) = true := by rw [HY.out]; simpa using h0
        have FC : Hid (Calls Try.prog 30 #[.pointer (some ⟨sb, 0, none⟩), .string ⟨#[73, 70]⟩] wr (Gone wr B sb a (formR s wIf))) := Lib.hid (form_sb B sb a HP.out.hsb s wr HP.out.wv HP.out.ok (by have := HO.out; omega) wIf (by decide) wIf (by decide))
        have OK := (formR_good s wIf).ok HP.out.ok
        go_wp2_with fail
        refine FC.out.mono ?_
        rintro e w5 ⟨rfl, a5, hsb5, H5, T5, nk5⟩
        have HP5 := Lib.hid (HP.out.call hsb5 H5 T5 nk5 OK)
        clear FC hsb5 H5 T5 nk5 OK HP
        have HT5 := Lib.hid (inv_if HT.out (by omega))
        clear HT HO
        generalize (formR s wIf).2 = s5 at *
        go_wp2_with (at_builtin; refine wpList_append_own_at _ rfl _ _ 39 rfl w.heap.size 9 j0 (.string ByteArray.empty) 1 16 Try.underlying39 hj hy0 hy1 hy2 rfl (by decide) _ _ _ rfl (HP5.out.row.alloc _) ⟨w5.heap.size, 0, none⟩ 1 1 [.string wThen] rfl rfl (cell_one_new _ _ _) (by intro u hu; simp at hu; subst hu; rfl) (by unfold maxLen; omega) (by omega) (by have := HP5.out.bel.size; simp; omega) ?_)
        intro v' w6 ho hg6 _ hloc
        obtain ⟨A', c', rfl⟩ := own_slice ho
        have HQ := Lib.hid (HP5.out.push ho hg6 hloc)
        clear ho hg6 hloc HP5
        go_wp2_with fail
        go_roundg (len - (i + 1))
        case rel => exact ⟨i + 1, s5, a5, A', c', P ++ [wThen], rfl, by simp, by go_num, by omega, by simp; omega, HQ, HT5⟩
        case measure => have := Hg.out; omega
      · have t0 : (bits BinOp.and IntKind.i64 x 7 == 0) = false := by rw [HY.out]; simpa using h0
        by_cases h1 : y = 1
        · have t1 : (bits BinOp.and IntKind.i64 x 7 == 1) = true := by rw [HY.out]; simpa using h1
          have FC : Hid (Calls Try.prog 30 #[.pointer (some ⟨sb, 0, none⟩), .string ⟨#[66, 69, 71, 73, 78]⟩] wr (Gone wr B sb a (formR s wBegin))) := Lib.hid (form_sb B sb a HP.out.hsb s wr HP.out.wv HP.out.ok (by have := HO.out; omega) wBegin (by decide) wBegin (by decide))
          have OK := (formR_good s wBegin).ok HP.out.ok
          go_wp2_with fail
          refine FC.out.mono ?_
          rintro e w5 ⟨rfl, a5, hsb5, H5, T5, nk5⟩
          have HP5 := Lib.hid (HP.out.call hsb5 H5 T5 nk5 OK)
          clear FC hsb5 H5 T5 nk5 OK HP
          have HT5 := Lib.hid ((inv_begin HT.out).2)
          clear HT HO
          generalize (formR s wBegin).2 = s5 at *
          go_wp2_with (at_builtin; refine wpList_append_own_at _ rfl _ _ 39 rfl w.heap.size 9 j0 (.string ByteArray.empty) 1 16 Try.underlying39 hj hy0 hy1 hy2 rfl (by decide) _ _ _ rfl (HP5.out.row.alloc _) ⟨w5.heap.size, 0, none⟩ 1 1 [.string wUntil] rfl rfl (cell_one_new _ _ _) (by intro u hu; simp at hu; subst hu; rfl) (by unfold maxLen; omega) (by omega) (by have := HP5.out.bel.size; simp; omega) ?_)
          intro v' w6 ho hg6 _ hloc
          obtain ⟨A', c', rfl⟩ := own_slice ho
          have HQ := Lib.hid (HP5.out.push ho hg6 hloc)
          clear ho hg6 hloc HP5
          go_wp2_with fail
          go_roundg (len - (i + 1))
          case rel => exact ⟨i + 1, s5, a5, A', c', P ++ [wUntil], rfl, by simp, by go_num, by omega, by simp; omega, HQ, HT5⟩
          case measure => have := Hg.out; omega
        · have t1 : (bits BinOp.and IntKind.i64 x 7 == 1) = false := by rw [HY.out]; simpa using h1
          by_cases h2 : y = 2
          · have t2 : (bits BinOp.and IntKind.i64 x 7 == 2) = true := by rw [HY.out]; simpa using h2
            have FC : Hid (Calls Try.prog 30 #[.pointer (some ⟨sb, 0, none⟩), .string ⟨#[68, 79]⟩] wr (Gone wr B sb a (formR s wDo))) := Lib.hid (form_sb B sb a HP.out.hsb s wr HP.out.wv HP.out.ok (by have := HO.out; omega) wDo (by decide) wDo (by decide))
            have OK := (formR_good s wDo).ok HP.out.ok
            go_wp2_with fail
            refine FC.out.mono ?_
            rintro e w5 ⟨rfl, a5, hsb5, H5, T5, nk5⟩
            have HP5 := Lib.hid (HP.out.call hsb5 H5 T5 nk5 OK)
            clear FC hsb5 H5 T5 nk5 OK HP
            have HT5 := Lib.hid (inv_do HT.out (by omega))
            clear HT HO
            generalize (formR s wDo).2 = s5 at *
            go_wp2_with (at_builtin; refine wpList_append_own_at _ rfl _ _ 39 rfl w.heap.size 9 j0 (.string ByteArray.empty) 1 16 Try.underlying39 hj hy0 hy1 hy2 rfl (by decide) _ _ _ rfl (HP5.out.row.alloc _) ⟨w5.heap.size, 0, none⟩ 1 1 [.string wLoop] rfl rfl (cell_one_new _ _ _) (by intro u hu; simp at hu; subst hu; rfl) (by unfold maxLen; omega) (by omega) (by have := HP5.out.bel.size; simp; omega) ?_)
            intro v' w6 ho hg6 _ hloc
            obtain ⟨A', c', rfl⟩ := own_slice ho
            have HQ := Lib.hid (HP5.out.push ho hg6 hloc)
            clear ho hg6 hloc HP5
            go_wp2_with fail
            go_roundg (len - (i + 1))
            case rel => exact ⟨i + 1, s5, a5, A', c', P ++ [wLoop], rfl, by simp, by go_num, by omega, by simp; omega, HQ, HT5⟩
            case measure => have := Hg.out; omega
          · have t2 : (bits BinOp.and IntKind.i64 x 7 == 2) = false := by rw [HY.out]; simpa using h2
            by_cases h3 : y = 3
            · have t3 : (bits BinOp.and IntKind.i64 x 7 == 3) = true := by rw [HY.out]; simpa using h3
              have FC : Hid (Calls Try.prog 30 #[.pointer (some ⟨sb, 0, none⟩), .string ⟨#[66, 69, 71, 73, 78]⟩] wr (Gone wr B sb a (formR s wBegin))) := Lib.hid (form_sb B sb a HP.out.hsb s wr HP.out.wv HP.out.ok (by have := HO.out; omega) wBegin (by decide) wBegin (by decide))
              have OK := (formR_good s wBegin).ok HP.out.ok
              go_wp2_with fail
              refine FC.out.mono ?_
              rintro e w4 ⟨rfl, a4, hsb5, H5, T5, nk5⟩
              have HP4 := Lib.hid (HP.out.call hsb5 H5 T5 nk5 OK)
              clear FC hsb5 H5 T5 nk5 OK HP
              have HT5 := Lib.hid (inv_while HT.out (by omega))
              have HO4 : (formR s wBegin).2.O.length ≤ 61 := by have := (formR_good s wBegin).few; have := HO.out; omega
              clear HT HO
              generalize (formR s wBegin).2 = s4 at *
              have HO := Lib.hid HO4
              clear HO4
              have FC : Hid (Calls Try.prog 30 #[.pointer (some ⟨sb, 0, none⟩), .string ⟨#[87, 72, 73, 76, 69]⟩] w4 (Gone w4 B sb a4 (formR s4 wWhile))) := Lib.hid (form_sb B sb a4 HP4.out.hsb s4 w4 HP4.out.wv HP4.out.ok (by have := HO.out; omega) wWhile (by decide) wWhile (by decide))
              have OK := (formR_good s4 wWhile).ok HP4.out.ok
              go_wp2_with fail
              refine FC.out.mono ?_
              rintro e w5 ⟨rfl, a5, hsb5, H5, T5, nk5⟩
              have HP5 := Lib.hid (HP4.out.call hsb5 H5 T5 nk5 OK)
              clear FC hsb5 H5 T5 nk5 OK HP4
              clear HO
              generalize (formR s4 wWhile).2 = s5 at *
              go_wp2_with (at_builtin; refine wpList_append_own_at _ rfl _ _ 39 rfl w.heap.size 9 j0 (.string ByteArray.empty) 1 16 Try.underlying39 hj hy0 hy1 hy2 rfl (by decide) _ _ _ rfl (HP5.out.row.alloc _) ⟨w5.heap.size, 0, none⟩ 1 1 [.string wRepeat] rfl rfl (cell_one_new _ _ _) (by intro u hu; simp at hu; subst hu; rfl) (by unfold maxLen; omega) (by omega) (by have := HP5.out.bel.size; simp; omega) ?_)
              intro v' w6 ho hg6 _ hloc
              obtain ⟨A', c', rfl⟩ := own_slice ho
              have HQ := Lib.hid (HP5.out.push ho hg6 hloc)
              clear ho hg6 hloc HP5
              go_wp2_with fail
              go_roundg (len - (i + 1))
              case rel => exact ⟨i + 1, s5, a5, A', c', P ++ [wRepeat], rfl, by simp, by go_num, by omega, by simp; omega, HQ, HT5⟩
              case measure => have := Hg.out; omega
            · have t3 : (bits BinOp.and IntKind.i64 x 7 == 3) = false := by rw [HY.out]; simpa using h3
              by_cases h4 : y = 4
              · have t4 : (bits BinOp.and IntKind.i64 x 7 == 4) = true := by rw [HY.out]; simpa using h4
                by_cases hPn : P = []
                · subst hPn
                  have HT5 := Lib.hid HT.out.up
                  clear HT HO
                  go_wp2_with fail
                  go_roundg (len - (i + 1))
                  case rel => exact ⟨i + 1, s, a, A, c, [], rfl, rfl, by go_num, by omega, by simp, HP, HT5⟩
                  case measure => have := Hg.out; omega
                · obtain ⟨P0, z, rfl⟩ : ∃ P0 z, P = P0 ++ [z] := ⟨P.dropLast, P.getLast hPn, (List.dropLast_concat_getLast hPn).symm⟩
                  clear hPn
                  obtain ⟨g, rfl, c1, f1⟩ := HP.out.cell P0.length (by simp)
                  have ez : (P0 ++ [z]).getD P0.length ByteArray.empty = z := by simp
                  rw [ez] at c1
                  clear ez
                  have hl2 : (P0 ++ [z]).length = P0.length + 1 := by simp
                  have hpos : 0 < P0.length + 1 := by omega
                  have hP3 : P0.length ≤ 30 := by simp at hP; omega
                  have hP4 : P0.length + 1 ≤ i := by simpa using hP
                  clear hP
                  rw [hl2]
                  have HL2 := Lib.hid hl2
                  clear hl2
                  by_cases hz : z = wThen
                  · subst hz
                    unfold wThen at c1
                    have FI := inv_else HT.out (by omega)
                    have F0 := Lib.hid FI.1
                    have HT5 := Lib.hid FI.2
                    clear FI HT f1
                    have FC : Hid (Calls Try.prog 30 #[.pointer (some ⟨sb, 0, none⟩), .string ⟨#[69, 76, 83, 69]⟩] wr (Gone wr B sb a (formR s wElse))) := Lib.hid (form_sb B sb a HP.out.hsb s _ HP.out.wv HP.out.ok (by have := HO.out; omega) wElse (by decide) wElse (by decide))
                    have OK := (formR_good s wElse).ok HP.out.ok
                    go_wp2_with fail
                    refine FC.out.mono ?_
                    rintro e w5 ⟨rfl, a5, hsb5, H5, T5, nk5⟩
                    have HP5 := Lib.hid (HP.out.call hsb5 H5 T5 nk5 OK)
                    rw [F0.out]
                    clear FC hsb5 H5 T5 nk5 OK HP HO F0 c1
                    generalize (formR s wElse).2 = s5 at *
                    obtain ⟨g', hg', c1, f1⟩ := HP5.out.cell P0.length (by simp)
                    obtain rfl : g = g' := by injection hg' with hg'; injection hg'
                    have HQ := Lib.hid (HP5.out.put wIfThen rfl)
                    unfold wIfThen at HQ
                    clear hg' HP5
                    go_wp2_with fail
                    go_roundg (len - (i + 1))
                    case rel => exact ⟨i + 1, s5, a5, _, c, P0 ++ [wIfThen], rfl, by simp, by go_num, by omega, by simp; omega, HQ, HT5⟩
                    case measure => have := Hg.out; omega
                  · have hz' : (z.toList == [84, 72, 69, 78]) = false := ne_lit hz
                    have HT5 := Lib.hid HT.out.up
                    clear HT HO hz
                    go_wp2_with fail
                    go_roundg (len - (i + 1))
                    case rel => exact ⟨i + 1, s, a, _, c, P0 ++ [z], rfl, by simp, by go_num, by omega, by simp; omega, HP, HT5⟩
                    case measure => have := Hg.out; omega
              · have t4 : (bits BinOp.and IntKind.i64 x 7 == 4) = false := by rw [HY.out]; simpa using h4
                have FC := Lib.hid (op_sb B sb a HP.out.hsb s wr HP.out.wv 6)
                have OK := (opR_good s 6).ok HP.out.ok
                go_wp2_with fail
                refine FC.out.mono ?_
                rintro e w5 ⟨rfl, a5, hsb5, H5, T5, nk5⟩
                have HP5 := Lib.hid (HP.out.call hsb5 H5 T5 nk5 OK)
                have HT5 := Lib.hid (inv_op HT.out (by omega))
                clear FC hsb5 H5 T5 nk5 OK HP HT HO
                generalize (opR s 6).2 = s5 at *
                go_wp2_with fail
                go_roundg (len - (i + 1))
                case rel => exact ⟨i + 1, s5, a5, A, c, P, rfl, rfl, by go_num, by omega, by omega, HP5, HT5⟩
                case measure => have := Hg.out; omega
    · obtain rfl : i = len := by omega
      clear hints Hg hlt hi'
      have HPl := Lib.hid (rfl : P.length = P.length)
      have HT0 : Hid (Tidy h0 (i + (P.length - P.length)) s (P.take P.length)) := by
        show Tidy _ _ _ _
        rw [List.take_length, Nat.sub_self]
        exact HT.out
      clear HT
      go_wp2_with fail
      go_loopg [8] P.length (fun g v wr => ∃ (j : Nat) (s : St) (a : At), g = j ∧ v = downTo j ∧ j ≤ P.length ∧ Hid (Pen w wr B sb s A c P a) ∧ Hid (Tidy h0 (i + (P.length - j)) s (P.take j)))
      case atStart => exact ⟨P.length, s, a, rfl, by simp only [downTo], by omega, HP, HT0⟩
      case round =>
        obtain ⟨j, s, a, hg, rfl, hj', HP, HT⟩ := hrel
        have Hg := Lib.hid hg
        clear hg
        rcases j with _ | k
        · have HPl : Hid (P.length ≤ i) := hP
          obtain ⟨⟨R, HR⟩, h2, h3, -⟩ := HT.out
          have hO0 : s.O = [] := by
            have := h2.few
            simpa using this
          have hM : s.M.length = 1000 := HR.len
          have HS := Lib.hid (fun k h1 h2 h3 => HR.scan hO0 k h1 h2 h3)
          have hR0 := HR.r0 h0 (Nat.le_refl _)
          have hh0 := HR.lo
          have hh1 : s.h ≤ 1000 := HR.hi
          have hO1 : s.O.length = 0 := by rw [hO0]; rfl
          clear h2 h3 HR hO0 HT
          have FM := mem_sb B sb a HP.out.hsb s wr HP.out.wv
          rw [hM] at FM
          have FM := Lib.hid FM
          have HO1 := Lib.hid hO1
          have HM := Lib.hid hM
          have HR0 := Lib.hid hR0
          clear hO1 hM hR0
          simp only [downTo]
          go_wp2_with fail
          refine FM.out.mono ?_
          rintro e w6 ⟨A', cap', rfl, ho6, hb6⟩
          have HP6 := Lib.hid (HP.out.below hb6)
          have FO := open_sb B sb a HP6.out.hsb s w6 HP6.out.wv
          rw [HO1.out] at FO
          have FO := Lib.hid FO
          have HR6 := Lib.hid ho6
          clear FM hb6 HP ho6
          go_wp2_with fail
          refine FO.out.mono ?_
          rintro e w6' ⟨rfl, rfl⟩
          clear FO
          go_wp2_with fail
          go_loopg [10] (s.h - h0) (fun g v wr => ∃ (k q : Nat), g = s.h - k ∧ v = .int .i64 k ∧ h0 ≤ k ∧ k ≤ s.h ∧ Hid (R k = false) ∧ wr = w6.drewN q)
          case atStart => exact ⟨h0, 0, rfl, rfl, Nat.le_refl _, hh0, HR0, rfl⟩
          case round =>
            obtain ⟨k, q, hg, rfl, hk0, hk1, HRk, rfl⟩ := hrel
            have Hg := Lib.hid hg
            clear hg
            have FH := Lib.hid (here_sb B sb a HP6.out.hsb s (w6.drewN q) (HP6.out.wv.drewN q))
            by_cases hlt : k < s.h
            · have hS := HS.out k hk0 hlt HRk.out
              obtain ⟨g, rfl, c0⟩ := row_cell (j := k) HR6.out HM.out.symm (by omega)
              have d0 : (w6.drewN q).cell? ⟨g, k, none⟩ = _ := c0
              clear c0
              rcases hS with ⟨hb, hR1⟩ | ⟨hb, hk2, hR2, hy1, hy2⟩
              · have e3 : (s.M.getD k 0 == 3) = false := by rw [beq_eq_false_iff_ne]; intro h; exact hb (Or.inl h)
                have e4 : (s.M.getD k 0 == 4) = false := by rw [beq_eq_false_iff_ne]; intro h; exact hb (Or.inr (Or.inl h))
                have e37 : (s.M.getD k 0 == 37) = false := by rw [beq_eq_false_iff_ne]; intro h; exact hb (Or.inr (Or.inr h))
                have HR1 := Lib.hid hR1
                clear hR1 hb
                generalize s.M.getD k 0 = y at *
                go_wp2_with fail
                refine FH.out.mono ?_
                rintro e w7 ⟨rfl, rfl⟩
                go_wp2_with fail
                go_roundg (s.h - (k + 1))
                case rel => exact ⟨k + 1, q, rfl, by go_num, by omega, by omega, HR1, rfl⟩
                case measure => have := Hg.out; omega
              · obtain ⟨g', hg', c1⟩ := row_cell (j := k + 1) HR6.out HM.out.symm (by omega)
                obtain rfl : g = g' := by injection hg' with hg'; injection hg'
                have d1 : (w6.drewN q).cell? ⟨g, k + 1, none⟩ = _ := c1
                have HR2 := Lib.hid hR2
                clear c1 hg' hR2
                generalize s.M.getD (k + 1) 0 = y1 at *
                have q1 : decide (y1 < (h0 : Int)) = false := by simp; omega
                have q2 : decide ((s.h : Int) < y1) = false := by simp; omega
                generalize hy : s.M.getD k 0 = y at *
                rcases hb with h | h | h
                all_goals
                  rw [h] at hy d0
                  clear h
                  have HY := Lib.hid hy
                  clear hy
                  go_wp2_with fail
                  refine FH.out.mono ?_
                  rintro e w7 ⟨rfl, rfl⟩
                  have hwr : Hid (IntKind.i64.wrap ((k : Int) + 1) = (k : Int) + 1) := IntWalk.i64_in _ (by omega)
                  have HH := Lib.hid (fun m => here_q B sb a HP6.out.hsb s ((w6.drewN q).drewN m) ((HP6.out.wv.drewN q).drewN m))
                  have HQ : Hid (∀ m, ∃ m', (w6.drewN q).drewN m = w6.drewN m') := fun m => ⟨q + m, by simp [World.drewN, Nat.add_assoc]⟩
                  generalize w6.drewN q = wq at *
                  go_wp2_with fail
                  go_quiet ((go_at_call 34; exact Calls.quiet_of_same (HH.out _)))
                  go_wp2_with fail
                  go_roundg (s.h - (k + 2))
                  case rel =>
                    obtain ⟨m', hm'⟩ := HQ.out nq
                    exact ⟨k + 2, m', rfl, by go_num, by omega, by omega, HR2, hm'⟩
                  case measure => have := Hg.out; omega
            · go_wp2_with fail
              refine FH.out.mono ?_
              rintro e w7 ⟨rfl, rfl⟩
              go_wp2_with fail
              go_ret
              exact ⟨rfl, below_drewN HP6.out.bel _⟩
        · obtain ⟨g, rfl, c1, -⟩ := HP.out.cell k (by omega)
          have hk30 : k ≤ 30 := by omega
          simp only [downTo]
          have hTk : P.take (k + 1) = P.take k ++ [P.getD k ByteArray.empty] := by
            rw [List.take_succ_eq_append_getElem (by omega)]
            simp [List.getD_eq_getElem?_getD, show k < P.length by omega]
          rw [hTk] at HT
          obtain ⟨W, hW, h16, F0, HT5⟩ := inv_close HT.out (by omega)
          have F0 := Lib.hid F0
          have HT5 := Lib.hid HT5
          have HO : Hid (s.O.length ≤ 140) := by have := HT.out.low; show _ ≤ _; omega
          clear hTk HT
          generalize P.getD k ByteArray.empty = z at *
          have FC := Lib.hid (form_sb B sb a HP.out.hsb s wr HP.out.wv HP.out.ok (by have := HO.out; omega) z h16 W hW)
          have OK := (formR_good s W).ok HP.out.ok
          clear hW h16
          go_wp2_with fail
          refine FC.out.mono ?_
          rintro e w5 ⟨rfl, a5, hsb5, H5, T5, nk5⟩
          have HP5 := Lib.hid (HP.out.call hsb5 H5 T5 nk5 OK)
          rw [F0.out]
          clear FC hsb5 H5 T5 nk5 OK HP HO F0 c1
          generalize (formR s W).2 = s5 at *
          have HT6 : Hid (Tidy h0 (i + (P.length - k)) s5 (P.take k)) := by
            have e : i + (P.length - (k + 1)) + 1 = i + (P.length - k) := by omega
            rw [← e]
            exact HT5
          clear HT5
          go_wp2_with fail
          go_roundg k
          case rel => exact ⟨k, s5, a5, rfl, by simp only [downTo], by omega, HP5, HT6⟩
          case measure => have := Hg.out; omega

end Go.Proofs.Ytfoogcdpllkeoaa.Wv
