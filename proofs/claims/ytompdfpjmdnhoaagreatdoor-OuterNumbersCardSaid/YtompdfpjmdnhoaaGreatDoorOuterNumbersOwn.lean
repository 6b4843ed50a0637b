/-
  Lemmas on the way, for every input that they name: OvN, OqN.
-/
import Derived.Test.YtompdfpjmdnhoaaGreatDoorQ36
import Derived.Test.YtompdfpjmdnhoaaGreatDoorQ37
set_option linter.unusedVariables false
set_option linter.unusedSimpArgs false
set_option linter.deprecated false
namespace Go.Proofs.YtompdfpjmdnhoaaGreatDoor.Ou
open Go.RowKit Go.Proofs.YtompdfpjmdnhoaaGreatDoor.Mc
theorem numbers1 (v : Int) (hv : In v)  : Plays [[.n (v) 10, .c 32, .c 46]] 0 ([Dg.putV (v) 10 ++ [32]] : List (List UInt8)).flatten :=
  plays_of [([.n (v) 10, .c 32, .c 46], [])] (0) [Dg.putV (v) 10 ++ [32]] [] (by kernel_rfl) (by kernel_rfl) (by kernel_rfl) (by kernel_rfl) (show allIn [v] from ⟨hv, trivial⟩) (fun p hp => by cases hp)
theorem numbers2 (v : Int) (hv : In v)  : Plays [[.c 104, .c 101, .c 120, .c 32, .n (v) 16, .c 32, .c 46]] 0 ([Dg.putV (v) 10 ++ [32]] : List (List UInt8)).flatten :=
  plays_of [([.c 104, .c 101, .c 120, .c 32, .n (v) 16, .c 32, .c 46], [])] (0) [Dg.putV (v) 10 ++ [32]] [] (by kernel_rfl) (by kernel_rfl) (by kernel_rfl) (by kernel_rfl) (show allIn [v] from ⟨hv, trivial⟩) (fun p hp => by cases hp)
theorem numbers3 (v : Int) (hv : In v)  : Plays [[.d (v), .c 32, .c 46]] 0 ([Dg.putV (v) 10 ++ [32]] : List (List UInt8)).flatten :=
  plays_of [([.d (v), .c 32, .c 46], [])] (0) [Dg.putV (v) 10 ++ [32]] [] (by kernel_rfl) (by kernel_rfl) (by kernel_rfl) (by kernel_rfl) (show allIn [v] from ⟨hv, trivial⟩) (fun p hp => by cases hp)
theorem numbers4 (v : Int) (hv : In v)  : Plays [[.c 104, .c 101, .c 120, .c 32, .c 100, .c 101, .c 99, .c 105, .c 109, .c 97, .c 108, .c 32, .n (v) 10, .c 32, .c 46]] 0 ([Dg.putV (v) 10 ++ [32]] : List (List UInt8)).flatten :=
  plays_of [([.c 104, .c 101, .c 120, .c 32, .c 100, .c 101, .c 99, .c 105, .c 109, .c 97, .c 108, .c 32, .n (v) 10, .c 32, .c 46], [])] (0) [Dg.putV (v) 10 ++ [32]] [] (by kernel_rfl) (by kernel_rfl) (by kernel_rfl) (by kernel_rfl) (show allIn [v] from ⟨hv, trivial⟩) (fun p hp => by cases hp)
theorem numbers5   : Plays [[.c 39, .c 65, .c 39, .c 32, .c 46]] 0 ([Dg.putV (65) 10 ++ [32]] : List (List UInt8)).flatten :=
  plays_of [([.c 39, .c 65, .c 39, .c 32, .c 46], [])] (0) [Dg.putV (65) 10 ++ [32]] [] (by kernel_rfl) (by kernel_rfl) (by kernel_rfl) (by kernel_rfl) (show allIn [] from trivial) (fun p hp => by cases hp)
theorem numbers6   : Plays [[.c 99, .c 104, .c 97, .c 114, .c 32, .c 65, .c 98, .c 99, .c 32, .c 46]] 0 ([Dg.putV (65) 10 ++ [32]] : List (List UInt8)).flatten :=
  plays_of [([.c 99, .c 104, .c 97, .c 114, .c 32, .c 65, .c 98, .c 99, .c 32, .c 46], [])] (0) [Dg.putV (65) 10 ++ [32]] [] (by kernel_rfl) (by kernel_rfl) (by kernel_rfl) (by kernel_rfl) (show allIn [] from trivial) (fun p hp => by cases hp)
end Go.Proofs.YtompdfpjmdnhoaaGreatDoor.Ou
namespace Go.Proofs.YtompdfpjmdnhoaaGreatDoor.Ou
open Go.RowKit Go.Proofs.YtompdfpjmdnhoaaGreatDoor.Rs Go.Proofs.YtompdfpjmdnhoaaGreatDoor.Src Go.Proofs.YtompdfpjmdnhoaaGreatDoor.Ft
set_option maxHeartbeats 8000000 in
set_option maxRecDepth 100000 in
theorem numbers_walk (v : Int) (h1 : -9223372036854775808 ≤ v) (h2 : v ≤ 9223372036854775807) (w : World) (A : Ahead w w) :
    Calls Tryz.prog 3 #[.int .i64 v] w fun e w' => e = .returned (.bool true) ∧ Below w.heap.size w w' := by
  have hv : Mc.In v := ⟨h1, h2⟩
  have HAl := Lib.hid (alive_any w w A)
  have HNm := Lib.hid (fun w => num_any v hv w)
  have HPt := Lib.hid (fun w => Dg.rput_any v 16 h1 h2 w)
  obtain ⟨N, eN, sN⟩ := num_some v 10 hv (by decide)
  obtain ⟨X, eX, sX⟩ := num_some v 16 hv (by decide)
  have P1 := Lib.hid (fun w1 A1 => tells1 w (N ++ ⟨#[32, 46]⟩) (N ++ ⟨#[32]⟩) _ _ (numbers1 v hv) (str_join _ _ (Dg.putV v 10) [32, 46] eN rfl) (by rw [str_join _ _ (Dg.putV v 10) [32] eN rfl]; simp) w1 A1)
  have P2 := Lib.hid (fun w1 A1 => tells1 w (⟨#[104, 101, 120, 32]⟩ ++ X ++ ⟨#[32, 46]⟩) (N ++ ⟨#[32]⟩) _ _ (numbers2 v hv) (str_join _ _ ([104, 101, 120, 32] ++ Dg.putV v 16) [32, 46] (str_join _ _ _ _ rfl eX) rfl) (by rw [str_join _ _ (Dg.putV v 10) [32] eN rfl]; simp) w1 A1)
  have P3 := Lib.hid (fun w1 A1 => tells1 w (⟨#[36]⟩ ++ X ++ ⟨#[32, 46]⟩) (N ++ ⟨#[32]⟩) _ _ (numbers3 v hv) (str_join _ _ ([36] ++ Dg.putV v 16) [32, 46] (str_join _ _ _ _ rfl eX) rfl) (by rw [str_join _ _ (Dg.putV v 10) [32] eN rfl]; simp) w1 A1)
  have P4 := Lib.hid (fun w1 A1 => tells1 w (⟨#[104, 101, 120, 32, 100, 101, 99, 105, 109, 97, 108, 32]⟩ ++ N ++ ⟨#[32, 46]⟩) (N ++ ⟨#[32]⟩) _ _ (numbers4 v hv) (str_join _ _ ([104, 101, 120, 32, 100, 101, 99, 105, 109, 97, 108, 32] ++ Dg.putV v 10) [32, 46] (str_join _ _ _ _ rfl eN) rfl) (by rw [str_join _ _ (Dg.putV v 10) [32] eN rfl]; simp) w1 A1)
  have P5 := Lib.hid (fun w1 A1 => tells1 w ⟨#[39, 65, 39, 32, 46]⟩ ⟨#[54, 53, 32]⟩ _ _ numbers5 rfl (by rw [put65]; rfl) w1 A1)
  have P6 := Lib.hid (fun w1 A1 => tells1 w ⟨#[99, 104, 97, 114, 32, 65, 98, 99, 32, 46]⟩ ⟨#[54, 53, 32]⟩ _ _ numbers6 rfl (by rw [put65]; rfl) w1 A1)
  rw [← eN] at HNm
  rw [← eX] at HPt
  have HA := Lib.hid A
  clear A h1 h2 hv eN eX
  go_enter Tryz.func3, Tryz.ntmps3
  go_wp2_with fail
  refine HAl.out.mono ?_
  rintro e w1 ⟨rfl, k⟩
  have A1 := Lib.hid (HA.out.next k)
  have K1 := Lib.hid k
  clear k HAl
  go_wp2_with fail
  refine (HNm.out _).mono ?_
  rintro e w2 ⟨rfl, rfl⟩
  go_wp2_with fail
  refine (HNm.out _).mono ?_
  rintro e w2 ⟨rfl, rfl⟩
  go_wp2_with fail
  refine (P1.out _ A1.out).mono ?_
  rintro e w2 ⟨rfl, k⟩
  have A2 := Lib.hid (A1.out.next k)
  have K2 := Lib.hid (K1.out.trans (k.mono K1.out.size))
  clear k K1 A1 P1
  go_wp2_with fail
  refine (HNm.out _).mono ?_
  rintro e w3 ⟨rfl, rfl⟩
  go_wp2_with fail
  refine (HPt.out _).mono ?_
  rintro e w3 ⟨rfl, rfl⟩
  go_wp2_with fail
  refine (P2.out _ A2.out).mono ?_
  rintro e w3 ⟨rfl, k⟩
  have A3 := Lib.hid (A2.out.next k)
  have K3 := Lib.hid (K2.out.trans (k.mono K2.out.size))
  clear k K2 A2 P2
  go_wp2_with fail
  refine (HNm.out _).mono ?_
  rintro e w4 ⟨rfl, rfl⟩
  go_wp2_with fail
  refine (HPt.out _).mono ?_
  rintro e w4 ⟨rfl, rfl⟩
  go_wp2_with fail
  refine (P3.out _ A3.out).mono ?_
  rintro e w4 ⟨rfl, k⟩
  have A4 := Lib.hid (A3.out.next k)
  have K4 := Lib.hid (K3.out.trans (k.mono K3.out.size))
  clear k K3 A3 P3
  go_wp2_with fail
  refine (HNm.out _).mono ?_
  rintro e w5 ⟨rfl, rfl⟩
  go_wp2_with fail
  refine (HNm.out _).mono ?_
  rintro e w5 ⟨rfl, rfl⟩
  go_wp2_with fail
  refine (P4.out _ A4.out).mono ?_
  rintro e w5 ⟨rfl, k⟩
  have A5 := Lib.hid (A4.out.next k)
  have K5 := Lib.hid (K4.out.trans (k.mono K4.out.size))
  clear k K4 A4 P4
  go_wp2_with fail
  refine (P5.out _ A5.out).mono ?_
  rintro e w6 ⟨rfl, k⟩
  have A6 := Lib.hid (A5.out.next k)
  have K6 := Lib.hid (K5.out.trans (k.mono K5.out.size))
  clear k K5 A5 P5
  go_wp2_with fail
  refine (P6.out _ A6.out).mono ?_
  rintro e w7 ⟨rfl, k⟩
  have K7 := Lib.hid (K6.out.trans (k.mono K6.out.size))
  clear k K6 A6 P6
  go_wp2_with fail
  go_ret
  exact ⟨rfl, K7.out⟩
end Go.Proofs.YtompdfpjmdnhoaaGreatDoor.Ou
