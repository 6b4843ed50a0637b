/-
  Chapter 2 (fault): alive.
-/
import Derived.Test.YtcfkhbkhejaegaaDoorFtJ
namespace Go.Proofs.YtcfkhbkhejaegaaDoor.Ft
open Go.RowKit Go.Extern.Stop Go.Stop Go.Extern

theorem itoa7 : Lib.itoa 7 = [55] := by
  have : Lib.itoa ((7 : Nat) : Int) = Lib.decDigits 7 := by unfold Lib.itoa; rw [if_neg (by omega)]; rfl
  rw [show (7 : Int) = ((7 : Nat) : Int) from rfl, this, Lib.decDigits_one (by omega)]
  rfl
theorem ok_alive (w : World) : Ok (-4) 7 w :=
  ⟨fun W _ => text_of W (-4, _) (.tail _ (.head _)), fun W _ => (Tryd.strconv_Itoa_small 7 (by omega) W).mono fun e w' ⟨he, hw⟩ => ⟨by rw [he, itoa7, Lib.decDigits_one (by omega)]; rfl, by rw [hw]; exact Below.refl _ _⟩, by decide, by rw [itoa7]; decide⟩
theorem err_alive : errB (-4) 7 [⟨#[115, 113]⟩] = ⟨#[115, 113, 58, 32, 115, 116, 97, 99, 107, 32, 117, 110, 100, 101, 114, 102, 108, 111, 119, 32, 97, 116, 32, 55]⟩ := by
  show ((⟨#[115, 113]⟩ : ByteArray) ++ (⟨#[58, 32]⟩ : ByteArray)) ++ (((⟨(textV (-4)).toArray⟩ : ByteArray) ++ (⟨#[32, 97, 116, 32]⟩ : ByteArray)) ++ (⟨(Lib.itoa 7).toArray⟩ : ByteArray)) = _
  rw [itoa7, show textV (-4) = [115, 116, 97, 99, 107, 32, 117, 110, 100, 101, 114, 102, 108, 111, 119] from rfl]
  decide

set_option maxHeartbeats 4000000 in
set_option maxRecDepth 100000 in
theorem alive_any (w : World) (hs : HandleIs w) : Calls Tryd.prog 18 #[] w fun e w' => e = .returned (.bool true) ∧ Below w.heap.size w w' := by
  have HS := Lib.hid hs
  clear hs
  go_enter Tryd.func18, Tryd.ntmps18
  go_wp2_with fail
  refine (new_any (-4) 7 (by omega) _).mono ?_
  rintro e w1 ⟨v1, rfl, h1, b1⟩
  have HW := Lib.hid (wrap_any (-4) 7 [] v1 ⟨#[115, 113]⟩ w1 h1)
  have B1 := Lib.hid b1
  clear h1 b1
  go_wp2_with fail
  refine HW.out.mono ?_
  rintro e w2 ⟨v2, rfl, h2, b2⟩
  have hB2 := B1.out.trans (b2.mono B1.out.size)
  obtain ⟨b, rfl, hlt⟩ := h2.ty
  unfold errTy at *
  have H2 := Lib.hid h2
  have B2 := Lib.hid hB2
  clear h2 b2 hB2 B1 HW
  go_wp2_with fail
  refine (code_any (-4) 7 [⟨#[115, 113]⟩] _ w2 H2.out (HS.out.below B2.out)).mono ?_
  rintro e w3 ⟨rfl, b3⟩
  have H3 := Lib.hid (H2.out.below b3)
  have B3 := Lib.hid (B2.out.trans (b3.mono B2.out.size))
  clear b3 H2 B2
  go_wp2_with fail
  refine (where_any (-4) 7 [⟨#[115, 113]⟩] _ w3 H3.out (HS.out.below B3.out)).mono ?_
  rintro e w4 ⟨rfl, b4⟩
  have H4 := Lib.hid (H3.out.below b4)
  have B4 := Lib.hid (B3.out.trans (b4.mono B3.out.size))
  clear b4 H3 B3
  obtain ⟨b', hv', hE⟩ := err_any (-4) 7 [⟨#[115, 113]⟩] _ w4 H4.out (ok_alive w4) (by rw [err_alive]; decide)
  obtain rfl : b = b' := by
    injection hv' with _ hv'; injection hv' with hv'; injection hv' with hv'; injection hv' with hv'
  rw [err_alive] at hE
  have HE := Lib.hid hE
  have mE := mErrorS
  clear hE hv'
  go_wp2_with fail
  refine HE.out.mono ?_
  rintro e w5 ⟨rfl, b5⟩
  have H5 := Lib.hid (H4.out.below b5)
  have B5 := Lib.hid (B4.out.trans (b5.mono B4.out.size))
  clear b5 H4 B4 HE
  go_wp2_with fail
  refine (fault_is_any (-4) 7 (-4) (by omega) [⟨#[115, 113]⟩] _ w5 H5.out).mono ?_
  rintro e w6 ⟨rfl, b6⟩
  have B6 := Lib.hid (B5.out.trans (b6.mono B5.out.size))
  clear b6 H5 B5
  go_wp2_with fail
  refine (new_zero 5 w6).mono ?_
  rintro e w7 ⟨rfl, rfl⟩
  go_wp2_with fail
  go_ret
  exact ⟨rfl, B6.out⟩
end Go.Proofs.YtcfkhbkhejaegaaDoor.Ft
