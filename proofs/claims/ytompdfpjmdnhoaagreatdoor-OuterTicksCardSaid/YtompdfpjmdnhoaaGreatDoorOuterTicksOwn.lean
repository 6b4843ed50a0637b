/-
  Lemmas on the way, for every input that they name: OvT, OqK.
-/
import Derived.Test.YtompdfpjmdnhoaaGreatDoorQ36
import Derived.Test.YtompdfpjmdnhoaaGreatDoorQ37
set_option linter.unusedVariables false
set_option linter.unusedSimpArgs false
set_option linter.deprecated false
namespace Go.Proofs.YtompdfpjmdnhoaaGreatDoor.Ou
open Go.RowKit Go.Proofs.YtompdfpjmdnhoaaGreatDoor.Mc
theorem ticks1 (a b : Int) (ha : In a) (hb : In b)  : Plays [[.n (a) 10, .c 32, .n (b) 10, .c 32, .c 39, .c 32, .c 43, .c 32, .c 101, .c 120, .c 101, .c 99, .c 117, .c 116, .c 101, .c 32, .c 46]] 0 ([Dg.putV (wr (a + b)) 10 ++ [32]] : List (List UInt8)).flatten :=
  plays_of [([.n (a) 10, .c 32, .n (b) 10, .c 32, .c 39, .c 32, .c 43, .c 32, .c 101, .c 120, .c 101, .c 99, .c 117, .c 116, .c 101, .c 32, .c 46], [])] (0) [Dg.putV (wr (a + b)) 10 ++ [32]] [] (by kernel_rfl) (by kernel_rfl) (by kernel_rfl) (by kernel_rfl) (show allIn [a, b] from ⟨ha, hb, trivial⟩) (fun p hp => by cases hp)
theorem ticks2 (a : Int) (ha : In a)  : Plays [[.c 58, .c 32, .c 100, .c 32, .c 50, .c 32, .c 42, .c 32, .c 59, .c 32, .c 58, .c 32, .c 103, .c 32, .c 91, .c 39, .c 93, .c 32, .c 100, .c 32, .c 101, .c 120, .c 101, .c 99, .c 117, .c 116, .c 101, .c 32, .c 59, .c 32, .n (a) 10, .c 32, .c 103, .c 32, .c 46]] 0 ([Dg.putV (wr (a * 2)) 10 ++ [32]] : List (List UInt8)).flatten :=
  plays_of [([.c 58, .c 32, .c 100, .c 32, .c 50, .c 32, .c 42, .c 32, .c 59, .c 32, .c 58, .c 32, .c 103, .c 32, .c 91, .c 39, .c 93, .c 32, .c 100, .c 32, .c 101, .c 120, .c 101, .c 99, .c 117, .c 116, .c 101, .c 32, .c 59, .c 32, .n (a) 10, .c 32, .c 103, .c 32, .c 46], [])] (0) [Dg.putV (wr (a * 2)) 10 ++ [32]] [] (by kernel_rfl) (by kernel_rfl) (by kernel_rfl) (by kernel_rfl) (show allIn [a] from ⟨ha, trivial⟩) (fun p hp => by cases hp)
theorem ticks3 (a : Int) (ha : In a)  : Plays [[.c 58, .c 32, .c 99, .c 32, .n (a) 10, .c 32, .c 59, .c 32, .c 118, .c 97, .c 114, .c 105, .c 97, .c 98, .c 108, .c 101, .c 32, .c 118, .c 32, .c 39, .c 32, .c 99, .c 32, .c 118, .c 32, .c 33, .c 32, .c 118, .c 32, .c 64, .c 32, .c 101, .c 120, .c 101, .c 99, .c 117, .c 116, .c 101, .c 32, .c 46]] 0 ([Dg.putV (a) 10 ++ [32]] : List (List UInt8)).flatten :=
  plays_of [([.c 58, .c 32, .c 99, .c 32, .n (a) 10, .c 32, .c 59, .c 32, .c 118, .c 97, .c 114, .c 105, .c 97, .c 98, .c 108, .c 101, .c 32, .c 118, .c 32, .c 39, .c 32, .c 99, .c 32, .c 118, .c 32, .c 33, .c 32, .c 118, .c 32, .c 64, .c 32, .c 101, .c 120, .c 101, .c 99, .c 117, .c 116, .c 101, .c 32, .c 46], [])] (0) [Dg.putV (a) 10 ++ [32]] [] (by kernel_rfl) (by kernel_rfl) (by kernel_rfl) (by kernel_rfl) (show allIn [a] from ⟨ha, trivial⟩) (fun p hp => by cases hp)
end Go.Proofs.YtompdfpjmdnhoaaGreatDoor.Ou
namespace Go.Proofs.YtompdfpjmdnhoaaGreatDoor.Ou
open Go.RowKit Go.Proofs.YtompdfpjmdnhoaaGreatDoor.Rs Go.Proofs.YtompdfpjmdnhoaaGreatDoor.Src Go.Proofs.YtompdfpjmdnhoaaGreatDoor.Ft
set_option maxHeartbeats 8000000 in
set_option maxRecDepth 100000 in
theorem ticks_walk (a b : Int) (ha : Mc.In a) (hb : Mc.In b) (w : World) (A : Ahead w w) :
    Calls Tryz.prog 10 #[.int .i64 a, .int .i64 b] w fun e w' => e = .returned (.bool true) ∧ Below w.heap.size w w' := by
  have HAl := Lib.hid (alive_any w w A)
  have HX := Lib.hid (fun w => num_any (a) ha w)
  obtain ⟨X, eX, sX⟩ := num_some (a) 10 ha (by decide)
  have HY := Lib.hid (fun w => num_any (b) hb w)
  obtain ⟨Y, eY, sY⟩ := num_some (b) 10 hb (by decide)
  have HM := Lib.hid (fun w => num_any (wrap64 (a + b)) (Mc.in_wr _) w)
  obtain ⟨M, eM, sM⟩ := num_some (wrap64 (a + b)) 10 (Mc.in_wr _) (by decide)
  have HD := Lib.hid (fun w => num_any (wrap64 (a * 2)) (Mc.in_wr _) w)
  obtain ⟨D, eD, sD⟩ := num_some (wrap64 (a * 2)) 10 (Mc.in_wr _) (by decide)
  have P1 := Lib.hid (fun w1 A1 => tells1 w (X ++ ⟨#[32]⟩ ++ Y ++ ⟨#[32, 39, 32, 43, 32, 101, 120, 101, 99, 117, 116, 101, 32, 46]⟩) (M ++ ⟨#[32]⟩) _ _ (ticks1 a b ha hb) (by rw [(str_join _ _ (((Dg.putV (a) 10) ++ [32]) ++ Dg.putV (b) 10) ([32, 39, 32, 43, 32, 101, 120, 101, 99, 117, 116, 101, 32, 46]) (str_join _ _ ((Dg.putV (a) 10) ++ [32]) (Dg.putV (b) 10) (str_join _ _ (Dg.putV (a) 10) ([32]) eX rfl) eY) rfl)]; simp [flat, Tk.bytes]) (by rw [(str_join _ _ (Dg.putV (wrap64 (a + b)) 10) ([32]) eM rfl), show wrap64 (a + b) = Mc.wr (a + b) from rfl]; simp) w1 A1)
  have P2 := Lib.hid (fun w1 A1 => tells1 w (⟨#[58, 32, 100, 32, 50, 32, 42, 32, 59, 32, 58, 32, 103, 32, 91, 39, 93, 32, 100, 32, 101, 120, 101, 99, 117, 116, 101, 32, 59, 32]⟩ ++ X ++ ⟨#[32, 103, 32, 46]⟩) (D ++ ⟨#[32]⟩) _ _ (ticks2 a ha) (by rw [(str_join _ _ (([58, 32, 100, 32, 50, 32, 42, 32, 59, 32, 58, 32, 103, 32, 91, 39, 93, 32, 100, 32, 101, 120, 101, 99, 117, 116, 101, 32, 59, 32]) ++ Dg.putV (a) 10) ([32, 103, 32, 46]) (str_join _ _ ([58, 32, 100, 32, 50, 32, 42, 32, 59, 32, 58, 32, 103, 32, 91, 39, 93, 32, 100, 32, 101, 120, 101, 99, 117, 116, 101, 32, 59, 32]) (Dg.putV (a) 10) rfl eX) rfl)]; simp [flat, Tk.bytes]) (by rw [(str_join _ _ (Dg.putV (wrap64 (a * 2)) 10) ([32]) eD rfl), show wrap64 (a * 2) = Mc.wr (a * 2) from rfl]; simp) w1 A1)
  have P3 := Lib.hid (fun w1 A1 => tells1 w (⟨#[58, 32, 99, 32]⟩ ++ X ++ ⟨#[32, 59, 32, 118, 97, 114, 105, 97, 98, 108, 101, 32, 118, 32, 39, 32, 99, 32, 118, 32, 33, 32, 118, 32, 64, 32, 101, 120, 101, 99, 117, 116, 101, 32, 46]⟩) (X ++ ⟨#[32]⟩) _ _ (ticks3 a ha) (by rw [(str_join _ _ (([58, 32, 99, 32]) ++ Dg.putV (a) 10) ([32, 59, 32, 118, 97, 114, 105, 97, 98, 108, 101, 32, 118, 32, 39, 32, 99, 32, 118, 32, 33, 32, 118, 32, 64, 32, 101, 120, 101, 99, 117, 116, 101, 32, 46]) (str_join _ _ ([58, 32, 99, 32]) (Dg.putV (a) 10) rfl eX) rfl)]; simp [flat, Tk.bytes]) (by rw [(str_join _ _ (Dg.putV (a) 10) ([32]) eX rfl)]; simp) w1 A1)
  rw [← eX] at HX
  rw [← eY] at HY
  rw [← eM] at HM
  rw [← eD] at HD
  have HA := Lib.hid A
  clear A eX eY eM eD ha hb
  go_enter Tryz.func10, Tryz.ntmps10
  go_wp2_with fail
  refine HAl.out.mono ?_
  rintro e w1 ⟨rfl, k⟩
  have A1 := Lib.hid (HA.out.next k)
  have K1 := Lib.hid k
  clear k HAl
  go_wp2_with fail
  refine (HM.out _).mono ?_
  rintro e w2 ⟨rfl, rfl⟩
  go_wp2_with fail
  refine (HX.out _).mono ?_
  rintro e w2 ⟨rfl, rfl⟩
  go_wp2_with fail
  refine (HY.out _).mono ?_
  rintro e w2 ⟨rfl, rfl⟩
  go_wp2_with fail
  refine (P1.out _ A1.out).mono ?_
  rintro e w2 ⟨rfl, k⟩
  have A2 := Lib.hid (A1.out.next k)
  have K2 := Lib.hid (K1.out.trans (k.mono K1.out.size))
  clear k K1 A1 P1
  go_wp2_with fail
  refine (HD.out _).mono ?_
  rintro e w3 ⟨rfl, rfl⟩
  go_wp2_with fail
  refine (HX.out _).mono ?_
  rintro e w3 ⟨rfl, rfl⟩
  go_wp2_with fail
  refine (P2.out _ A2.out).mono ?_
  rintro e w3 ⟨rfl, k⟩
  have A3 := Lib.hid (A2.out.next k)
  have K3 := Lib.hid (K2.out.trans (k.mono K2.out.size))
  clear k K2 A2 P2
  go_wp2_with fail
  refine (HX.out _).mono ?_
  rintro e w4 ⟨rfl, rfl⟩
  go_wp2_with fail
  refine (HX.out _).mono ?_
  rintro e w4 ⟨rfl, rfl⟩
  go_wp2_with fail
  refine (P3.out _ A3.out).mono ?_
  rintro e w4 ⟨rfl, k⟩
  have A4 := Lib.hid (A3.out.next k)
  have K4 := Lib.hid (K3.out.trans (k.mono K3.out.size))
  clear k K3 A3 P3
  go_wp2_with fail
  go_ret
  exact ⟨rfl, K4.out⟩
end Go.Proofs.YtompdfpjmdnhoaaGreatDoor.Ou
