/-
  Chapter 2 (fault): FaultTells, the walk.
-/
import Derived.Test.YtcfkhbkhejaegaaDoorFtN
namespace Go.Proofs.YtcfkhbkhejaegaaDoor.Ft
open Go.RowKit Go.Extern.Stop Go.Stop Go.Extern

theorem own_row_blk {w : World} {B e sz n k : Nat} {v : Value} {xs : List Value} (H : w.ownsRow B e sz v n xs) (hk : v.ownBlock = some k) : ∃ cs, Blk w k e cs := by
  rcases H.2 with ⟨rfl, _⟩ | ⟨g, cap, cur, rfl, _, hh, _⟩
  · simp [Value.ownBlock] at hk
  · obtain rfl : g = k := by simpa [Value.ownBlock] using hk
    exact ⟨cur, hh⟩
theorem own_kept {w w' : World} {F : Nat → Prop} {B e sz n m c : Nat} {A : Option Addr} {xs : List Value} (H : w.ownsRow B e sz (.slice A n c) m xs) (T : Touch w w' (fun k => F k ∧ ∀ cs, ¬ Blk w k e cs)) : w'.ownsRow B e sz (.slice A n c) m xs :=
  own_touch H T (fun k hk h => by obtain ⟨cs, hb⟩ := own_row_blk H (by rw [ownBlock_slice]; exact hk); exact h.2 cs hb)

theorem errB_size (code ip : Int) (hc : (textV code).length ≤ 40) (hi : (Lib.itoa ip).length ≤ 21) : ∀ l : List ByteArray, (∀ s ∈ l, s.size ≤ 100) → (errB code ip l).size ≤ 65 + 102 * l.length
  | [], _ => by
    show (((⟨(textV code).toArray⟩ : ByteArray) ++ (⟨#[32, 97, 116, 32]⟩ : ByteArray)) ++ (⟨(Lib.itoa ip).toArray⟩ : ByteArray)).size ≤ _
    rw [ByteArray.size_append, ByteArray.size_append]
    simp [ByteArray.size]
    omega
  | s :: r, h => by
    show ((s ++ (⟨#[58, 32]⟩ : ByteArray)) ++ errB code ip r).size ≤ _
    rw [ByteArray.size_append, ByteArray.size_append]
    have h1 := errB_size code ip hc hi r (fun x hx => h x (by simp [hx]))
    have h2 := h s (by simp)
    have h3 : (⟨#[58, 32]⟩ : ByteArray).size = 2 := rfl
    simp
    omega
theorem strs_one (L : List ByteArray) : ∀ u ∈ L.map Value.string, u.oneCell' = true := by intro u hu; simp at hu; obtain ⟨s, _, rfl⟩ := hu; rfl
theorem rev_take {xs : List ByteArray} {k : Nat} {x : ByteArray} (h : xs[k]? = some x) : (xs.take (k + 1)).reverse = x :: (xs.take k).reverse := by
  rw [List.take_add_one, h]
  simp

set_option maxHeartbeats 4000000 in
set_option maxRecDepth 100000 in
theorem tells_bad (code ip other : Int) (A : Option Addr) (len cap : Nat) (hm : len ≤ maxLen) (hbad : 40 < len) (w : World) (hs : St w) :
    Calls Tryd.prog 8 #[.int .i64 code, .int .i64 ip, .slice A len cap, .int .i64 other] w fun e w' => e = .returned (.bool true) ∧ Below w.heap.size w w' := by
  unfold maxLen at hm
  have HA := Lib.hid (alive_any w hs.handle)
  clear hs
  go_enter Tryd.func8, Tryd.ntmps8
  go_wp2_with fail
  refine HA.out.mono ?_
  rintro e w1 ⟨rfl, hb⟩
  have HB := Lib.hid hb
  clear hb
  go_wp2_with fail
  go_ret
  exact ⟨rfl, HB.out⟩

set_option maxHeartbeats 8000000 in
set_option maxRecDepth 100000 in
theorem tells_walk (code ip other : Int) (a1 : -9223372036854775808 ≤ code) (a2 : code ≤ 9223372036854775807) (b1 : -9223372036854775808 ≤ ip) (b2 : ip ≤ 9223372036854775807)
    (A : Option Addr) (len cap : Nat) (xs : List ByteArray) (hm : len ≤ 40) (hx : xs.length = len) (hsz : ∀ s ∈ xs, s.size ≤ maxLen) (w : World) (hr : Reads w w.heap.size 1 A len (xs.map .string)) (hs : St w) :
    Calls Tryd.prog 8 #[.int .i64 code, .int .i64 ip, .slice A len cap, .int .i64 other] w fun e w' => e = .returned (.bool true) ∧ Below w.heap.size w w' := by
  unfold maxLen at hsz
  obtain ⟨i0, hi0, hz0, hz1, hz2⟩ := info_parts infoStr
  have l1 := textV_len code a1 a2
  have l2 := Lib.itoa_length_le ip b1 b2
  have hput := Dg.rput_any ip 10 b1 b2
  rw [← itoa_put] at hput
  have HPut := Lib.hid hput
  have HText := Lib.hid (rtext_any code a1 a2)
  have HPText := Lib.hid (fun (W : World) (h : St W) => text_any code a1 a2 W h)
  have HOk := Lib.hid (fun (W : World) (h : St W) => (h.ok a1 a2 b1 b2 : Ok code ip W))
  have HSz := Lib.hid (errB_size code ip l1 l2)
  have HA := Lib.hid (alive_any w hs.handle)
  have HS := Lib.hid hs
  have HR := Lib.hid hr
  have HX := Lib.hid hx
  have HM := Lib.hid hsz
  have ad1 : ∀ W, (Op.stringOp .add ⟨(textV code).toArray⟩ ⟨#[32, 97, 116, 32]⟩).run Tryd.prog W = .ok (.string (⟨(textV code).toArray⟩ ++ ⟨#[32, 97, 116, 32]⟩)) W := fun W => run_string_add W _ _ (by simp [ByteArray.size]; omega) (by simp [ByteArray.size])
  have ad2 : ∀ W, (Op.stringOp .add (⟨(textV code).toArray⟩ ++ ⟨#[32, 97, 116, 32]⟩) ⟨(Lib.itoa ip).toArray⟩).run Tryd.prog W = .ok (.string (errB code ip [])) W := fun W => run_string_add W _ _ (by rw [ByteArray.size_append]; simp [ByteArray.size]; omega) (by simp [ByteArray.size]; omega)
  clear a1 a2 b1 b2 l1 l2 hput hs hr hx hsz
  generalize hTV : textV code = tv at HText HPText ad1 ad2
  generalize hIV : Lib.itoa ip = iv at HPut ad2
  clear hTV hIV
  go_enter Tryd.func8, Tryd.ntmps8
  go_wp2_with fail
  refine HA.out.mono ?_
  rintro e w1 ⟨rfl, hb⟩
  have B1 := Lib.hid hb
  clear hb HA
  go_wp2_with fail
  refine (new_ev code ip w1).mono ?_
  rintro e w2 ⟨v0, rfl, hv0, hb⟩
  have B2 := Lib.hid (B1.out.trans (hb.mono B1.out.size))
  have HV := Lib.hid hv0
  clear hb B1 hv0
  go_wp2_with fail
  refine (HText.out w2).mono ?_
  rintro e w3 ⟨rfl, rfl⟩
  go_wp2_with fail
  refine (HPut.out w2).mono ?_
  rintro e w3 ⟨rfl, rfl⟩
  go_wp2_with fail
  clear ad1 ad2
  go_loopg [9, 10, 11, 12] len (fun g ve vw vl vi wr => ∃ k : Nat, g = len - k ∧ k ≤ len ∧ vi = .int .i64 k ∧ vw = .string (errB code ip (xs.take k).reverse) ∧ Hid (EV wr code ip (xs.take k).reverse ve) ∧ Hid (∀ s ∈ (xs.take k).reverse, s.size ≤ 100) ∧
    Hid (wr.ownsRow w.heap.size 9 1 vl k ((xs.take k).reverse.map .string)) ∧ Hid (Below w.heap.size w wr))
  case atStart => exact ⟨0, rfl, by omega, rfl, rfl, HV, by show ∀ s ∈ _, _; simp, World.ownsRow_nil _ _ _ _, B2⟩
  case round =>
    obtain ⟨k, hg, hk, rfl, rfl, HE, H100, HO, HB⟩ := hrel
    have Hg := Lib.hid hg
    clear hg HV B2
    by_cases hlt : k < len
    · obtain ⟨ad, u, rfl, hadb, hxk, hc⟩ := (HR.out.below HB.out).at_ hlt
      obtain ⟨x, hxk2, rfl⟩ : ∃ x, xs[k]? = some x ∧ u = .string x := by
        rw [List.getElem?_map] at hxk
        cases h : xs[k]? with
        | none => rw [h] at hxk; cases hxk
        | some x => rw [h] at hxk; exact ⟨x, rfl, (Option.some.inj hxk).symm⟩
      clear hxk
      have hxk := hxk2
      clear hxk2
      have hxm := HM.out x (List.mem_of_getElem? hxk)
      obtain ⟨Aw, cw, rfl⟩ := own_slice HO.out
      by_cases hbig : 100 < x.size
      · clear hxk
        go_wp2_with fail
        go_ret
        exact ⟨rfl, HB.out⟩
      · have hrev := rev_take hxk
        have HRev := Lib.hid hrev
        have h100 : ∀ s ∈ (xs.take (k + 1)).reverse, s.size ≤ 100 := by
          rw [hrev]
          intro s hs
          rcases List.mem_cons.1 hs with rfl | hs
          · omega
          · exact H100.out s hs
        have H100' := Lib.hid h100
        have s1 := HSz.out _ H100.out
        have hl1 : (xs.take k).reverse.length ≤ 40 := by simp; omega
        have HW := Lib.hid (wrap_ev code ip _ _ x wr HE.out)
        have HAD := Lib.hid hadb
        have HC := Lib.hid hc
        have ad1 : ∀ W, (Op.stringOp .add x ⟨#[58, 32]⟩).run Tryd.prog W = .ok (.string (x ++ ⟨#[58, 32]⟩)) W := fun W => run_string_add W _ _ (by omega) (by simp [ByteArray.size])
        have ad2 : ∀ W, (Op.stringOp .add (x ++ ⟨#[58, 32]⟩) (errB code ip (xs.take k).reverse)).run Tryd.prog W = .ok (.string (errB code ip (xs.take (k + 1)).reverse)) W := fun W => by
          rw [hrev]
          exact run_string_add W _ _ (by rw [ByteArray.size_append]; have : (⟨#[58, 32]⟩ : ByteArray).size = 2 := rfl; omega) (by omega)
        clear hrev h100 s1 hl1 hxk
        go_wp2_with fail
        refine HW.out.mono ?_
        rintro e w4 ⟨v4, rfl, hv4, hb⟩
        have c4 : w4.cell? (ad.add k) = some (.string x) := (hb.cell (p := ad.add k) (by rw [block_of_add]; have := HAD.out; have := HB.out.size; omega)).trans HC.out
        have o4 := own_touch HO.out (Touch.of_below hb (fun _ => False)) (fun _ _ h => h)
        have hR4 := Reads.of_own o4
        have B4 := HB.out.trans (hb.mono HB.out.size)
        have HV4 := Lib.hid hv4
        have HB4 := Lib.hid B4
        have hb4 := B4.size
        clear hv4 hb HW hc B4
        go_wp2_with (at_builtin; refine wpList_append_any _ rfl _ _ 33 rfl w.heap.size 9 i0 (.string ⟨#[]⟩) 1 16 Tryd.underlying33 hi0 hz0 hz1 hz2 rfl (by decide) _ 1 [.string x] rfl (World.ownsRow_lit _ _ 1 hb4 (by decide) rfl) w4.heap.size Aw k cw ((xs.take k).reverse.map Value.string) rfl (hR4.alloc (Nat.le_refl _) _) (strs_one _) (by unfold maxLen; omega) (by omega) (by simp; omega) ?_)
        intro v' w5 ho5 hg5 _
        have hb5 : Below w4.heap.size w4 w5 := ((Below.refl _ _).alloc (Nat.le_refl _) (.cells #[.string x] 9)).grown hg5 (by simp) (fun q hq => by simp [Value.ownBlock] at hq; omega)
        have HO5 : Hid (w5.ownsRow w.heap.size 9 1 v' (k + 1) ((xs.take (k + 1)).reverse.map .string)) := by
          show World.ownsRow _ _ _ _ _ _ _
          rw [HRev.out, Nat.add_comm k 1]
          simpa using ho5
        have HV5 := Lib.hid (HV4.out.below hb5)
        have HB5 := Lib.hid (HB4.out.trans (hb5.mono HB4.out.size))
        clear hb5 ho5 hg5 HV4 HB4 hR4 o4 c4 ad1 ad2
        go_wp2_with fail
        go_roundg (len - (k + 1))
        case rel => exact ⟨k + 1, rfl, by omega, by go_num, rfl, by rw [HRev.out]; exact HV5, H100', HO5, HB5⟩
        case measure => have := Hg.out; omega
    · obtain rfl : k = len := by omega
      have hLlen : (xs.take k).reverse.length = k := by simp; have := HX.out; omega
      generalize (xs.take k).reverse = L at *
      have HLl := Lib.hid hLlen
      have hml : (L.map Value.string).length = k := by simpa using hLlen
      have hE1 : ∀ u ∈ L.map Value.string, BkT.IsE u := by intro u hu; simp at hu; obtain ⟨s, _, rfl⟩ := hu; exact ⟨s, rfl⟩
      have HE1 := Lib.hid hE1
      have s1 : (errB code ip L).size ≤ 8388608 := by have := HSz.out L H100.out; omega
      have HS1 := Lib.hid s1
      clear hE1 s1 hlt
      rcases HE.out with ⟨h0, rfl⟩ | ⟨h0, hEr⟩
      · have e0 : (code == 0) = true := by simpa using h0
        clear h0
        go_wp2_with fail
        refine (code_nil wr).mono ?_
        rintro e w4 ⟨rfl, hb⟩
        have B4 := Lib.hid (HB.out.trans (hb.mono HB.out.size))
        clear hb
        go_wp2_with fail
        refine (where_nil w4).mono ?_
        rintro e w5 ⟨rfl, hb⟩
        have B5 := Lib.hid (B4.out.trans (hb.mono B4.out.size))
        clear hb
        go_wp2_with fail
        refine (words_nil w5).mono ?_
        rintro e w6 ⟨rfl, hb⟩
        have B6 := Lib.hid (B5.out.trans (hb.mono B5.out.size))
        clear hb
        go_wp2_with fail
        refine (fault_is_nil other w6).mono ?_
        rintro e w7 ⟨rfl, rfl⟩
        go_wp2_with fail
        go_ret
        exact ⟨rfl, B6.out⟩
      · have e0 : (code == 0) = false := by simpa using h0
        have HC0 := Lib.hid h0
        obtain ⟨bE, rfl, hblt⟩ := hEr.ty
        obtain ⟨Aw, cw, rfl⟩ := own_slice HO.out
        have HEr := Lib.hid hEr
        have K0 : Below wr.heap.size wr (wr.alloc (.cells (BkT.cells (.slice none 0 0) (.slice none 0 0)) 49)) := (Below.refl _ _).alloc (Nat.le_refl _) _
        have I0 := BkT.Is.new wr w.heap.size HB.out.size
        have W1 := words_any code ip L _ _ (hEr.below K0) (HS.out.below (HB.out.trans (K0.mono HB.out.size))).handle (by omega)
        rw [hLlen] at W1
        unfold BkT.cells at K0 I0 W1
        have HI0 := Lib.hid I0
        have HK0 := Lib.hid K0
        have HW1 := Lib.hid W1
        clear h0 K0 I0 W1 hEr HE
        go_wp2_with fail
        refine HW1.out.mono ?_
        rintro e w3 ⟨oa, rfl, hoa, hb3⟩
        obtain ⟨Aa, ca, rfl⟩ := own_slice hoa
        have hs0 := HK0.out.size
        have hs3 := hb3.size
        have hBw := HB.out.size
        simp at hs0 hs3
        have HI3 := Lib.hid (HI0.out.below hb3)
        have hNa : ∀ q, (Value.slice Aa k ca).ownBlock = some q → wr.heap.size + 1 ≤ q := fun q hq => by have := (hoa.lt q hq).1; simpa using this
        have hoa' := own_less (B' := w.heap.size) (by simp; omega) hoa
        have HK1 := Lib.hid (BkT.keep_any w.heap.size wr.heap.size (fun q => q = wr.heap.size) (.slice Aa k ca) (L.map Value.string) w3 HI3.out (by omega) (by unfold Bk.Own; rw [hml]; exact hoa') (by omega) HE1.out (fun q hq e => by have := hNa q hq; omega))
        have K3 : Below wr.heap.size wr w3 := HK0.out.trans (hb3.mono (by simp))
        have HK3 := Lib.hid K3
        have HNa := Lib.hid hNa
        have HOa := Lib.hid hoa'
        clear hb3 hoa hoa' K3 hNa HI0 HI3 HW1 HK0 hs0
        go_wp2_with fail
        refine HK1.out.mono ?_
        rintro e w4 ⟨rfl, F1, hI4, hF1, hT4⟩
        have oa4 := own_kept HOa.out hT4
        have K4 : Below wr.heap.size wr w4 := HK3.out.trans (hT4.below (fun q hq => by have := hq.1; omega) (by omega))
        have hI4' := book_cut hI4
        have hF1' : ∀ q, F1 q → wr.heap.size ≤ q := fun q hq => by
          rcases hF1 q hq with h | h | h
          · omega
          · have := HNa.out q h; omega
          · omega
        have W2 := words_any code ip L _ w4 (HEr.out.below K4) (HS.out.below (HB.out.trans (K4.mono HB.out.size))).handle (by have := HLl.out; omega)
        rw [hLlen] at W2
        have HW2 := Lib.hid W2
        have HI4 := Lib.hid hI4'
        have HF1 := Lib.hid hF1'
        have HK4 := Lib.hid K4
        have HO4 := Lib.hid oa4
        clear hI4 hF1 hT4 oa4 K4 hI4' hF1' W2 HK1 HK3 HOa HNa
        go_wp2_with fail
        refine HW2.out.mono ?_
        rintro e w5 ⟨ob, rfl, hob, hb5⟩
        obtain ⟨A2, c2, rfl⟩ := own_slice hob
        have hs4 := HK4.out.size
        have hs5 := hb5.size
        have HK2 := Lib.hid (BkT.keep_any w.heap.size wr.heap.size _ (.slice A2 k c2) (L.map Value.string) w5 (HI4.out.below hb5) (by omega) (by unfold Bk.Own; rw [hml]; exact own_less (by omega) hob) (by omega) HE1.out (fun q hq e => by have := (hob.lt q hq).1; have := e.2; omega))
        have HK5 := Lib.hid (HK4.out.trans (hb5.mono hs4))
        have HO5 := Lib.hid (own_touch HO4.out (Touch.of_below hb5 (fun _ => False)) (fun _ _ h => h))
        clear hob hb5 HI4 HK4 HO4 HW2
        go_wp2_with fail
        refine HK2.out.mono ?_
        rintro e w6 ⟨rfl, F2, hI6, hF2, hT6⟩
        have oa6 := own_kept HO5.out hT6
        have K6 : Below wr.heap.size wr w6 := HK5.out.trans (hT6.below (fun q hq => HF1.out q hq.1.1) (by omega))
        have HI6 := Lib.hid hI6
        have HK6 := Lib.hid K6
        have HO6 := Lib.hid oa6
        have hs6 := K6.size
        clear hI6 hF2 hT6 oa6 K6 HK2 HK5 HO5
        have stOf : ∀ W, Below wr.heap.size wr W → St W := fun W hW => HS.out.below (HB.out.trans (hW.mono HB.out.size))
        have HSt := Lib.hid stOf
        clear stOf
        go_wp2_with fail
        refine (code_any code ip L _ w6 (HEr.out.below HK6.out) (HSt.out w6 HK6.out).handle).mono ?_
        rintro e w7 ⟨rfl, hb7⟩
        have HB7 := Lib.hid hb7
        have HK7 := Lib.hid (HK6.out.trans (hb7.mono hs6))
        clear hb7
        go_wp2_with fail
        refine (where_any code ip L _ w7 (HEr.out.below HK7.out) (HSt.out w7 HK7.out).handle).mono ?_
        rintro e w8 ⟨rfl, hb8⟩
        have HB8 := Lib.hid (HB7.out.trans (hb8.mono HB7.out.size))
        have HK8 := Lib.hid (HK7.out.trans (hb8.mono HK7.out.size))
        clear hb8 HB7 HK7
        obtain ⟨b', hv', hE⟩ := err_any code ip L _ w8 (HEr.out.below HK8.out) (HOk.out w8 (HSt.out w8 HK8.out)) HS1.out
        obtain rfl : bE = b' := by
          injection hv' with _ hv'; injection hv' with hv'; injection hv' with hv'; injection hv' with hv'
        have mE := mError L
        have hEn := errFn_enters L
        have HErr := Lib.hid hE
        clear hE hv'
        go_wp2_with fail
        refine HErr.out.mono ?_
        rintro e w9 ⟨rfl, hb9⟩
        have HB9 := Lib.hid (HB8.out.trans (hb9.mono HB8.out.size))
        have HK9 := Lib.hid (HK8.out.trans (hb9.mono HK8.out.size))
        have o9 := own_touch HO6.out (Touch.of_below HB9.out (fun _ => False)) (fun _ _ h => h)
        have ow9 := own_touch HO.out (Touch.of_below HK9.out (fun _ => False)) (fun _ _ h => h)
        have hSame := BkT.same_any w9.heap.size w9.heap.size ca cw Aa Aw (L.map Value.string) w9 (by rw [hml]; exact Reads.of_own o9) (by rw [hml]; exact Reads.of_own ow9) HE1.out (by omega)
        rw [hml] at hSame
        have HSame := Lib.hid hSame
        clear hb9 HB8 HK8 HErr o9 ow9 hSame mE hEn
        go_wp2_with fail
        refine HSame.out.mono ?_
        rintro e w10 ⟨rfl, q, rfl⟩
        have HB10 := Lib.hid (below_of_draw HB9.out q)
        have HK10 := Lib.hid (below_of_draw HK9.out q)
        clear HB9 HK9 HSame
        generalize w9.drewN q = w10 at *
        have hIs : ∃ r, (code == other) = r ∧ (r = true → (other != 0) = true) ∧ Calls Tryd.prog 26 #[.iface (errTy L) (.pointer (some ⟨bE, 0, none⟩)), .int .i64 other] w10 fun e w' => e = .returned (.bool r) ∧ Below w10.heap.size w10 w' := by
          by_cases ho : other = 0
          · subst ho
            refine ⟨false, by simpa using HC0.out, (fun h => by cases h), ?_⟩
            exact (fault_is_zero _ _ _ rfl w10).mono fun e w' ⟨he, hw⟩ => ⟨he, by rw [← hw]; exact Below.refl _ _⟩
          · refine ⟨(code == other), rfl, fun _ => by simpa using ho, ?_⟩
            have h := fault_is_any code ip other ho L _ w10 (HEr.out.below HK10.out)
            rw [show (other == code) = (code == other) from BEq.comm] at h
            exact h
        obtain ⟨r, hr1, hr2, hIs⟩ := hIs
        have HIs := Lib.hid hIs
        have hcc : (code == code) = true := by simp
        clear hIs
        cases r with
        | true =>
          have hr3 := hr2 rfl
          clear hr2
          go_wp2_with fail
          refine HIs.out.mono ?_
          rintro e w11 ⟨rfl, hb11⟩
          have HB11 := Lib.hid (HB10.out.trans (hb11.mono HB10.out.size))
          have HK11 := Lib.hid (HK10.out.trans (hb11.mono HK10.out.size))
          clear hb11 HB10 HK10 HIs
          go_wp2_with fail
          refine (fault_is_any code ip code HC0.out L _ w11 (HEr.out.below HK11.out)).mono ?_
          rintro e w12 ⟨rfl, hb12⟩
          have HB12 := Lib.hid (HB11.out.trans (hb12.mono HB11.out.size))
          have HK12 := Lib.hid (HK11.out.trans (hb12.mono HK11.out.size))
          clear hb12 HB11 HK11
          go_wp2_with fail
          refine (HPText.out w12 (HSt.out w12 HK12.out)).mono ?_
          rintro e w13 ⟨rfl, hb13⟩
          have HB13 := Lib.hid (HB12.out.trans (hb13.mono HB12.out.size))
          have HK13 := Lib.hid (HK12.out.trans (hb13.mono HK12.out.size))
          clear hb13 HB12 HK12
          go_wp2_with fail
          refine (HText.out w13).mono ?_
          rintro e w14 ⟨rfl, rfl⟩
          have HAp := Lib.hid (BkT.apart_any w.heap.size wr.heap.size F2 w13 (HI6.out.below HB13.out) (by have := HK13.out.size; omega))
          go_wp2_with fail
          refine HAp.out.mono ?_
          rintro e w15 ⟨rfl, hb15⟩
          go_wp2_with fail
          go_ret
          exact ⟨rfl, (HB.out.trans (HK13.out.mono HB.out.size)).trans hb15⟩
        | false =>
          clear hr2
          go_wp2_with fail
          refine HIs.out.mono ?_
          rintro e w11 ⟨rfl, hb11⟩
          have HB11 := Lib.hid (HB10.out.trans (hb11.mono HB10.out.size))
          have HK11 := Lib.hid (HK10.out.trans (hb11.mono HK10.out.size))
          clear hb11 HB10 HK10 HIs
          go_wp2_with fail
          refine (fault_is_any code ip code HC0.out L _ w11 (HEr.out.below HK11.out)).mono ?_
          rintro e w12 ⟨rfl, hb12⟩
          have HB12 := Lib.hid (HB11.out.trans (hb12.mono HB11.out.size))
          have HK12 := Lib.hid (HK11.out.trans (hb12.mono HK11.out.size))
          clear hb12 HB11 HK11
          go_wp2_with fail
          refine (HPText.out w12 (HSt.out w12 HK12.out)).mono ?_
          rintro e w13 ⟨rfl, hb13⟩
          have HB13 := Lib.hid (HB12.out.trans (hb13.mono HB12.out.size))
          have HK13 := Lib.hid (HK12.out.trans (hb13.mono HK12.out.size))
          clear hb13 HB12 HK12
          go_wp2_with fail
          refine (HText.out w13).mono ?_
          rintro e w14 ⟨rfl, rfl⟩
          have HAp := Lib.hid (BkT.apart_any w.heap.size wr.heap.size F2 w13 (HI6.out.below HB13.out) (by have := HK13.out.size; omega))
          go_wp2_with fail
          refine HAp.out.mono ?_
          rintro e w15 ⟨rfl, hb15⟩
          go_wp2_with fail
          go_ret
          exact ⟨rfl, (HB.out.trans (HK13.out.mono HB.out.size)).trans hb15⟩

theorem tells_any (code ip other : Int) (a1 : -9223372036854775808 ≤ code) (a2 : code ≤ 9223372036854775807) (b1 : -9223372036854775808 ≤ ip) (b2 : ip ≤ 9223372036854775807)
    (A : Option Addr) (len cap : Nat) (w : World) (hl : len ≤ maxLen ∧ ∃ xs : List ByteArray, xs.length = len ∧ (∀ s ∈ xs, s.size ≤ maxLen) ∧ Reads w w.heap.size 1 A len (xs.map .string)) (hs : St w) :
    Calls Tryd.prog 8 #[.int .i64 code, .int .i64 ip, .slice A len cap, .int .i64 other] w fun e w' => e = .returned (.bool true) ∧ Below w.heap.size w w' := by
  obtain ⟨hm, xs, hx, hsz, hr⟩ := hl
  by_cases h : 40 < len
  · exact tells_bad code ip other A len cap hm h w hs
  · exact tells_walk code ip other a1 a2 b1 b2 A len cap xs (by omega) hx hsz w hr hs
end Go.Proofs.YtcfkhbkhejaegaaDoor.Ft
