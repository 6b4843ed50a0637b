/-
  Chapter 2 (fault): FaultWraps, the walk.
-/
import Derived.Test.YtcfkhbkhejaegaaDoorFtK
namespace Go.Proofs.YtcfkhbkhejaegaaDoor.Ft
open Go.RowKit Go.Extern.Stop Go.Stop Go.Extern

set_option maxHeartbeats 4000000 in
set_option maxRecDepth 100000 in
theorem wraps_bad (code ip n : Int) (word : ByteArray) (other : Int) (hsm : word.size ≤ maxLen) (hbad : code = 0 ∨ n < 0 ∨ 60 < n ∨ 60 < word.size) (w : World) (hs : HandleIs w) :
    Calls Tryd.prog 9 #[.int .i64 code, .int .i64 ip, .int .i64 n, .string word, .int .i64 other] w fun e w' => e = .returned (.bool true) ∧ Below w.heap.size w w' := by
  unfold maxLen at hsm
  have HA := Lib.hid (alive_any w hs)
  clear hs
  by_cases h1 : code = 0
  · have e1 : (code == 0) = true := by simpa using h1
    clear hbad h1
    go_enter Tryd.func9, Tryd.ntmps9
    go_wp2_with fail
    refine HA.out.mono ?_
    rintro e w1 ⟨rfl, hb⟩
    have HB := Lib.hid hb
    clear hb
    go_wp2_with fail
    go_ret
    exact ⟨rfl, HB.out⟩
  · have e1 : (code == 0) = false := by simpa using h1
    by_cases h2 : n < 0
    · have e2 : decide (n < 0) = true := by simpa using h2
      clear hbad h1 h2
      go_enter Tryd.func9, Tryd.ntmps9
      go_wp2_with fail
      refine HA.out.mono ?_
      rintro e w1 ⟨rfl, hb⟩
      have HB := Lib.hid hb
      clear hb
      go_wp2_with fail
      go_ret
      exact ⟨rfl, HB.out⟩
    · have e2 : decide (n < 0) = false := by simpa using h2
      by_cases h3 : 60 < n
      · have e3 : decide (60 < n) = true := by simpa using h3
        clear hbad h1 h2 h3
        go_enter Tryd.func9, Tryd.ntmps9
        go_wp2_with fail
        refine HA.out.mono ?_
        rintro e w1 ⟨rfl, hb⟩
        have HB := Lib.hid hb
        clear hb
        go_wp2_with fail
        go_ret
        exact ⟨rfl, HB.out⟩
      · have e3 : decide (60 < n) = false := by simpa using h3
        have h4 : 60 < word.size := by omega
        have e4 : decide (60 < word.size) = true := by simpa using h4
        clear hbad
        go_enter Tryd.func9, Tryd.ntmps9
        go_wp2_with fail
        refine HA.out.mono ?_
        rintro e w1 ⟨rfl, hb⟩
        have HB := Lib.hid hb
        clear hb
        go_wp2_with fail
        go_ret
        exact ⟨rfl, HB.out⟩

theorem ErrIs.nil_ne {w : World} {code ip : Int} {ws : List ByteArray} {v : Value} (h : ErrIs w code ip ws v) : ∃ b, v = .iface (errTy ws) (.pointer (some ⟨b, 0, none⟩)) := by obtain ⟨b, h1, _⟩ := h.ty; exact ⟨b, h1⟩

set_option maxHeartbeats 4000000 in
set_option maxRecDepth 100000 in
theorem wraps_walk (code ip n : Int) (word : ByteArray) (other : Int) (hsm : word.size ≤ maxLen) (w : World) (hs : HandleIs w) :
    Calls Tryd.prog 9 #[.int .i64 code, .int .i64 ip, .int .i64 n, .string word, .int .i64 other] w fun e w' => e = .returned (.bool true) ∧ Below w.heap.size w w' := by
  by_cases hbad : code = 0 ∨ n < 0 ∨ 60 < n ∨ 60 < word.size
  · exact wraps_bad code ip n word other hsm hbad w hs
  obtain ⟨h1, h2, h3, h4⟩ : code ≠ 0 ∧ ¬ n < 0 ∧ ¬ 60 < n ∧ ¬ 60 < word.size := ⟨fun h => hbad (.inl h), fun h => hbad (.inr (.inl h)), fun h => hbad (.inr (.inr (.inl h))), fun h => hbad (.inr (.inr (.inr h)))⟩
  unfold maxLen at hsm
  have e1 : (code == 0) = false := by simpa using h1
  have e2 : decide (n < 0) = false := by simpa using h2
  have e3 : decide (60 < n) = false := by simpa using h3
  have e4 : decide (60 < word.size) = false := by simpa using h4
  have H1 := Lib.hid h1
  have HA := Lib.hid (alive_any w hs)
  have HS := Lib.hid hs
  obtain ⟨n, rfl⟩ : ∃ m : Nat, n = m := ⟨n.toNat, by omega⟩
  have HN : Hid (n ≤ 60) := by show n ≤ 60; omega
  clear hbad h1 h2 h3 hs
  go_enter Tryd.func9, Tryd.ntmps9
  go_wp2_with fail
  refine HA.out.mono ?_
  rintro e w1 ⟨rfl, hb⟩
  have B1 := Lib.hid hb
  clear hb HA
  go_wp2_with fail
  refine (new_any code ip H1.out w1).mono ?_
  rintro e w2 ⟨v0, rfl, hv0, hb⟩
  have B2 := Lib.hid (B1.out.trans (hb.mono B1.out.size))
  have HV := Lib.hid hv0
  clear hb B1 hv0
  clear e2 e3 e4 h4
  go_wp2_with fail
  go_loopg [11, 12] n (fun g ve vi wr => ∃ k : Nat, g = n - k ∧ k ≤ n ∧ vi = .int .i64 k ∧ Hid (ErrIs wr code ip (List.replicate k word) ve) ∧ Hid (Below w.heap.size w wr))
  case atStart => exact ⟨0, rfl, by omega, rfl, HV, B2⟩
  case round =>
    obtain ⟨k, hg, hk, rfl, HE, HB⟩ := hrel
    have Hg := Lib.hid hg
    clear hg HV B2
    by_cases hlt : k < n
    · have HW := Lib.hid (wrap_any code ip _ _ word wr HE.out)
      have hn60 := HN.out
      go_wp2_with fail
      refine HW.out.mono ?_
      rintro e w3 ⟨v3, rfl, hv3, hb⟩
      have HV3 := Lib.hid hv3
      have B3 := Lib.hid (HB.out.trans (hb.mono HB.out.size))
      clear hb hv3 HW
      go_wp2_with fail
      go_roundg (n - (k + 1))
      case rel => exact ⟨k + 1, rfl, by omega, by go_num, HV3, B3⟩
      case measure => have := Hg.out; omega
    · obtain rfl : k = n := by omega
      have hn60 := HN.out
      obtain ⟨b, rfl⟩ := HE.out.nil_ne
      have hw := words_any code ip (List.replicate k word) _ wr HE.out (HS.out.below HB.out) (by simp; omega)
      rw [List.length_replicate] at hw
      have HW := Lib.hid hw
      clear hw hlt
      go_wp2_with fail
      refine HW.out.mono ?_
      rintro e w3 ⟨out, rfl, ho, hb⟩
      obtain ⟨A, c, rfl⟩ := own_slice ho
      have E3 := Lib.hid (HE.out.below hb)
      have B3 := Lib.hid (HB.out.trans (hb.mono HB.out.size))
      clear hb ho HW HE HB
      go_wp2_with fail
      refine (code_any code ip _ _ w3 E3.out (HS.out.below B3.out)).mono ?_
      rintro e w4 ⟨rfl, hb⟩
      have E4 := Lib.hid (E3.out.below hb)
      have B4 := Lib.hid (B3.out.trans (hb.mono B3.out.size))
      clear hb E3 B3
      go_wp2_with fail
      refine (where_any code ip _ _ w4 E4.out (HS.out.below B4.out)).mono ?_
      rintro e w5 ⟨rfl, hb⟩
      have E5 := Lib.hid (E4.out.below hb)
      have B5 := Lib.hid (B4.out.trans (hb.mono B4.out.size))
      clear hb E4 B4
      go_wp2_with fail
      refine (fault_is_any code ip code H1.out _ _ w5 E5.out).mono ?_
      rintro e w6 ⟨rfl, hb⟩
      have E6 := Lib.hid (E5.out.below hb)
      have B6 := Lib.hid (B5.out.trans (hb.mono B5.out.size))
      clear hb E5 B5
      have hcc : (code == code) = true := by simp
      by_cases ho : other = code
      · have f1 : (other == code) = true := by simpa using ho
        clear ho
        go_wp2_with fail
        refine (wrap_nil word w6).mono ?_
        rintro e w7 ⟨rfl, rfl⟩
        go_wp2_with fail
        go_ret
        exact ⟨rfl, B6.out⟩
      · have f1 : (other == code) = false := by simpa using ho
        have HI : Hid (Calls Tryd.prog 26 #[.iface (errTy (List.replicate k word)) (.pointer (some ⟨b, 0, none⟩)), .int .i64 other] w6 fun e w' => e = .returned (.bool false) ∧ Below w6.heap.size w6 w') := by
          by_cases h0 : other = 0
          · subst h0
            exact (fault_is_zero _ _ _ rfl w6).mono fun e w' ⟨he, hw⟩ => ⟨he, by rw [← hw]; exact Below.refl _ _⟩
          · have h := fault_is_any code ip other h0 _ _ w6 E6.out
            rw [f1] at h
            exact h
        clear ho
        go_wp2_with fail
        refine HI.out.mono ?_
        rintro e w7 ⟨rfl, hb⟩
        have B7 := Lib.hid (B6.out.trans (hb.mono B6.out.size))
        clear hb B6 E6 HI
        go_wp2_with fail
        refine (wrap_nil word w7).mono ?_
        rintro e w8 ⟨rfl, rfl⟩
        go_wp2_with fail
        go_ret
        exact ⟨rfl, B7.out⟩
end Go.Proofs.YtcfkhbkhejaegaaDoor.Ft
