/-
  Lemmas on the way, for every input that they name: OvT, OqF.
-/
import Derived.Test.YtompdfpjmdnhoaaGreatDoorQ36
import Derived.Test.YtompdfpjmdnhoaaGreatDoorQ37
set_option linter.unusedVariables false
set_option linter.unusedSimpArgs false
set_option linter.deprecated false
namespace Go.Proofs.YtompdfpjmdnhoaaGreatDoor.Ou
open Go.RowKit Go.Proofs.YtompdfpjmdnhoaaGreatDoor.Mc
theorem forgets1 (a : Int) (ha : In a)  : Plays [[.c 58, .c 32, .c 102, .c 32, .n (a) 10, .c 32, .c 59, .c 32, .c 104, .c 101, .c 114, .c 101, .c 32, .c 58, .c 32, .c 103, .c 32, .c 50, .c 32, .c 59, .c 32, .c 58, .c 32, .c 104, .c 32, .c 51, .c 32, .c 59, .c 32, .c 102, .c 111, .c 114, .c 103, .c 101, .c 116, .c 32, .c 103, .c 32, .c 104, .c 101, .c 114, .c 101, .c 32, .c 61, .c 32, .c 46], [.c 102, .c 32, .c 46], [.c 103]] (-13) ([Dg.putV (-1) 10 ++ [32], Dg.putV (a) 10 ++ [32]] : List (List UInt8)).flatten :=
  plays_of [([.c 58, .c 32, .c 102, .c 32, .n (a) 10, .c 32, .c 59, .c 32, .c 104, .c 101, .c 114, .c 101, .c 32, .c 58, .c 32, .c 103, .c 32, .c 50, .c 32, .c 59, .c 32, .c 58, .c 32, .c 104, .c 32, .c 51, .c 32, .c 59, .c 32, .c 102, .c 111, .c 114, .c 103, .c 101, .c 116, .c 32, .c 103, .c 32, .c 104, .c 101, .c 114, .c 101, .c 32, .c 61, .c 32, .c 46], []), ([.c 102, .c 32, .c 46], []), ([.c 103], [])] ((-13)) [Dg.putV (-1) 10 ++ [32], Dg.putV (a) 10 ++ [32]] [] (by kernel_rfl) (by kernel_rfl) (by kernel_rfl) (by kernel_rfl) (show allIn [a] from ⟨ha, trivial⟩) (fun p hp => by cases hp)
theorem forgets2 (a b : Int) (ha : In a) (hb : In b)  : Plays [[.c 58, .c 32, .c 102, .c 32, .n (a) 10, .c 32, .c 59, .c 32, .c 102, .c 111, .c 114, .c 103, .c 101, .c 116, .c 32, .c 102, .c 32, .c 58, .c 32, .c 102, .c 32, .n (b) 10, .c 32, .c 59, .c 32, .c 102, .c 32, .c 46]] 0 ([Dg.putV (b) 10 ++ [32]] : List (List UInt8)).flatten :=
  plays_of [([.c 58, .c 32, .c 102, .c 32, .n (a) 10, .c 32, .c 59, .c 32, .c 102, .c 111, .c 114, .c 103, .c 101, .c 116, .c 32, .c 102, .c 32, .c 58, .c 32, .c 102, .c 32, .n (b) 10, .c 32, .c 59, .c 32, .c 102, .c 32, .c 46], [])] (0) [Dg.putV (b) 10 ++ [32]] [] (by kernel_rfl) (by kernel_rfl) (by kernel_rfl) (by kernel_rfl) (show allIn [a, b] from ⟨ha, hb, trivial⟩) (fun p hp => by cases hp)
theorem forgets3   : Plays [[.c 102, .c 111, .c 114, .c 103, .c 101, .c 116, .c 32, .c 100, .c 117, .c 112]] (-13) ([] : List (List UInt8)).flatten :=
  plays_of [([.c 102, .c 111, .c 114, .c 103, .c 101, .c 116, .c 32, .c 100, .c 117, .c 112], [])] ((-13)) [] [] (by kernel_rfl) (by kernel_rfl) (by kernel_rfl) (by kernel_rfl) (show allIn [] from trivial) (fun p hp => by cases hp)
theorem forgets4   : Plays [[.c 102, .c 111, .c 114, .c 103, .c 101, .c 116, .c 32, .c 110, .c 111, .c 116, .c 104, .c 105, .c 110, .c 103]] (-13) ([] : List (List UInt8)).flatten :=
  plays_of [([.c 102, .c 111, .c 114, .c 103, .c 101, .c 116, .c 32, .c 110, .c 111, .c 116, .c 104, .c 105, .c 110, .c 103], [])] ((-13)) [] [] (by kernel_rfl) (by kernel_rfl) (by kernel_rfl) (by kernel_rfl) (show allIn [] from trivial) (fun p hp => by cases hp)
end Go.Proofs.YtompdfpjmdnhoaaGreatDoor.Ou
namespace Go.Proofs.YtompdfpjmdnhoaaGreatDoor.Ou
open Go.RowKit Go.Proofs.YtompdfpjmdnhoaaGreatDoor.Rs Go.Proofs.YtompdfpjmdnhoaaGreatDoor.Src Go.Proofs.YtompdfpjmdnhoaaGreatDoor.Ft
theorem second_any (s : ByteArray) (c : Int) (w : World) : Calls Tryz.prog 21 #[.string s, .int .i64 c] w fun e w' => e = .returned (.int .i64 c) ∧ w = w' := by
  go_enter Tryz.func21, Tryz.ntmps21
  go_wp2_with fail
  go_ret
  exact ⟨rfl, rfl⟩
set_option maxHeartbeats 8000000 in
set_option maxRecDepth 100000 in
theorem forgets_walk (a b : Int) (ha : Mc.In a) (hb : Mc.In b)  (w : World) (A : Ahead w w) :
    Calls Tryz.prog 12 #[.int .i64 a, .int .i64 b] w fun e w' => e = .returned (.bool true) ∧ Below w.heap.size w w' := by
  have HAl := Lib.hid (fun w1 A1 => alive_any w w1 A1)
  have HS := Lib.hid second_any
  have HX := Lib.hid (fun w => num_any (a) ha w)
  obtain ⟨X, eX, sX⟩ := num_some (a) 10 ha (by decide)
  have HY := Lib.hid (fun w => num_any (b) hb w)
  obtain ⟨Y, eY, sY⟩ := num_some (b) 10 hb (by decide)
  have P1 := Lib.hid (fun w1 A1 => play3 w (⟨#[58, 32, 102, 32]⟩ ++ X ++ ⟨#[32, 59, 32, 104, 101, 114, 101, 32, 58, 32, 103, 32, 50, 32, 59, 32, 58, 32, 104, 32, 51, 32, 59, 32, 102, 111, 114, 103, 101, 116, 32, 103, 32, 104, 101, 114, 101, 32, 61, 32, 46]⟩) (⟨#[102, 32, 46]⟩) (⟨#[103]⟩) _ _ _ _ _ (by have h := forgets1 a ha; rw [putM1] at h; exact h) (by rw [(str_join _ _ (([58, 32, 102, 32]) ++ Dg.putV (a) 10) ([32, 59, 32, 104, 101, 114, 101, 32, 58, 32, 103, 32, 50, 32, 59, 32, 58, 32, 104, 32, 51, 32, 59, 32, 102, 111, 114, 103, 101, 116, 32, 103, 32, 104, 101, 114, 101, 32, 61, 32, 46]) (str_join _ _ ([58, 32, 102, 32]) (Dg.putV (a) 10) rfl eX) rfl)]; simp [flat, Tk.bytes]) rfl rfl (⟨#[45, 49, 32]⟩ ++ X ++ ⟨#[32]⟩) (by rw [(str_join _ _ (([45, 49, 32]) ++ Dg.putV (a) 10) ([32]) (str_join _ _ ([45, 49, 32]) (Dg.putV (a) 10) rfl eX) rfl)]; simp) w1 A1)
  have P2 := Lib.hid (fun w1 A1 => tells1 w (⟨#[58, 32, 102, 32]⟩ ++ X ++ ⟨#[32, 59, 32, 102, 111, 114, 103, 101, 116, 32, 102, 32, 58, 32, 102, 32]⟩ ++ Y ++ ⟨#[32, 59, 32, 102, 32, 46]⟩) (Y ++ ⟨#[32]⟩) _ _ (forgets2 a b ha hb) (by rw [(str_join _ _ (((([58, 32, 102, 32]) ++ Dg.putV (a) 10) ++ [32, 59, 32, 102, 111, 114, 103, 101, 116, 32, 102, 32, 58, 32, 102, 32]) ++ Dg.putV (b) 10) ([32, 59, 32, 102, 32, 46]) (str_join _ _ ((([58, 32, 102, 32]) ++ Dg.putV (a) 10) ++ [32, 59, 32, 102, 111, 114, 103, 101, 116, 32, 102, 32, 58, 32, 102, 32]) (Dg.putV (b) 10) (str_join _ _ (([58, 32, 102, 32]) ++ Dg.putV (a) 10) ([32, 59, 32, 102, 111, 114, 103, 101, 116, 32, 102, 32, 58, 32, 102, 32]) (str_join _ _ ([58, 32, 102, 32]) (Dg.putV (a) 10) rfl eX) rfl) eY) rfl)]; simp [flat, Tk.bytes]) (by rw [(str_join _ _ (Dg.putV (b) 10) ([32]) eY rfl)]; simp) w1 A1)
  have P3 := Lib.hid (fun w1 A1 => play1 w (⟨#[102, 111, 114, 103, 101, 116, 32, 100, 117, 112]⟩) _ _ _ (forgets3) rfl (⟨#[]⟩) rfl w1 A1)
  have P4 := Lib.hid (fun w1 A1 => play1 w (⟨#[102, 111, 114, 103, 101, 116, 32, 110, 111, 116, 104, 105, 110, 103]⟩) _ _ _ (forgets4) rfl (⟨#[]⟩) rfl w1 A1)
  rw [← eX] at HX
  rw [← eY] at HY
  have HA := Lib.hid A
  clear A eX eY ha hb
  go_enter Tryz.func12, Tryz.ntmps12
  go_wp2_with fail
  refine (HAl.out _ HA.out).mono ?_
  rintro e w1 ⟨rfl, k⟩
  have A1 := Lib.hid (HA.out.next k)
  have K1 := Lib.hid k
  clear k
  go_wp2_with fail
  refine (HX.out _).mono ?_
  rintro e w2 ⟨rfl, rfl⟩
  go_wp2_with fail
  refine (P1.out _ A1.out).mono ?_
  rintro e w2 ⟨rfl, k⟩
  have A2 := Lib.hid (A1.out.next k)
  have K2 := Lib.hid (K1.out.trans (k.mono K1.out.size))
  clear k K1 A1
  go_wp2_with fail
  refine (HX.out _).mono ?_
  rintro e w3 ⟨rfl, rfl⟩
  go_wp2_with fail
  refine (HY.out _).mono ?_
  rintro e w3 ⟨rfl, rfl⟩
  go_wp2_with fail
  refine (HX.out _).mono ?_
  rintro e w3 ⟨rfl, rfl⟩
  go_wp2_with fail
  refine (HY.out _).mono ?_
  rintro e w3 ⟨rfl, rfl⟩
  go_wp2_with fail
  refine (P2.out _ A2.out).mono ?_
  rintro e w3 ⟨rfl, k⟩
  have A3 := Lib.hid (A2.out.next k)
  have K3 := Lib.hid (K2.out.trans (k.mono K2.out.size))
  clear k K2 A2
  go_wp2_with fail
  refine (P3.out _ A3.out).mono ?_
  rintro e w4 ⟨rfl, k⟩
  have A4 := Lib.hid (A3.out.next k)
  have K4 := Lib.hid (K3.out.trans (k.mono K3.out.size))
  clear k K3 A3
  go_wp2_with fail
  refine (HS.out _ _ _).mono ?_
  rintro e wd ⟨rfl, rfl⟩
  go_wp2_with fail
  refine (P4.out _ A4.out).mono ?_
  rintro e w5 ⟨rfl, k⟩
  have A5 := Lib.hid (A4.out.next k)
  have K5 := Lib.hid (K4.out.trans (k.mono K4.out.size))
  clear k K4 A4
  go_wp2_with fail
  refine (HS.out _ _ _).mono ?_
  rintro e wd ⟨rfl, rfl⟩
  go_wp2_with fail
  go_ret
  exact ⟨rfl, K5.out⟩
end Go.Proofs.YtompdfpjmdnhoaaGreatDoor.Ou
