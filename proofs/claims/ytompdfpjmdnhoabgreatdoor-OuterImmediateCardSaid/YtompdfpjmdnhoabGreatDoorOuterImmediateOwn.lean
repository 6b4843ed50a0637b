/-
  Lemmas on the way, for every input that they name: OvT, OqM.
-/
import Derived.Test.YtompdfpjmdnhoabGreatDoorQ36
import Derived.Test.YtompdfpjmdnhoabGreatDoorQ37
set_option linter.unusedVariables false
set_option linter.unusedSimpArgs false
set_option linter.deprecated false
namespace Go.Proofs.YtompdfpjmdnhoabGreatDoor.Ou
open Go.RowKit Go.Proofs.YtompdfpjmdnhoabGreatDoor.Mc
theorem immediate1 (a b : Int) (ha : In a) (hb : In b)  : Plays [[.c 58, .c 32, .c 109, .c 32, .n (a) 10, .c 32, .n (b) 10, .c 32, .c 42, .c 32, .c 59, .c 32, .c 105, .c 109, .c 109, .c 101, .c 100, .c 105, .c 97, .c 116, .c 101, .c 32, .c 58, .c 32, .c 102, .c 32, .c 109, .c 32, .c 108, .c 105, .c 116, .c 101, .c 114, .c 97, .c 108, .c 32, .c 59, .c 32, .c 102, .c 32, .c 46]] 0 ([Dg.putV (wr (a * b)) 10 ++ [32]] : List (List UInt8)).flatten :=
  plays_of [([.c 58, .c 32, .c 109, .c 32, .n (a) 10, .c 32, .n (b) 10, .c 32, .c 42, .c 32, .c 59, .c 32, .c 105, .c 109, .c 109, .c 101, .c 100, .c 105, .c 97, .c 116, .c 101, .c 32, .c 58, .c 32, .c 102, .c 32, .c 109, .c 32, .c 108, .c 105, .c 116, .c 101, .c 114, .c 97, .c 108, .c 32, .c 59, .c 32, .c 102, .c 32, .c 46], [])] (0) [Dg.putV (wr (a * b)) 10 ++ [32]] [] (by kernel_rfl) (by kernel_rfl) (by kernel_rfl) (by kernel_rfl) (show allIn [a, b] from ⟨ha, hb, trivial⟩) (fun p hp => by cases hp)
theorem immediate2 (a : Int) (ha : In a)  : Plays [[.c 58, .c 32, .c 110, .c 111, .c 119, .c 32, .c 46, .c 34, .c 32, .c 120, .c 34, .c 32, .c 59, .c 32, .c 105, .c 109, .c 109, .c 101, .c 100, .c 105, .c 97, .c 116, .c 101, .c 32, .c 58, .c 32, .c 102, .c 32, .c 110, .c 111, .c 119, .c 32, .n (a) 10, .c 32, .c 59, .c 32, .c 102, .c 32, .c 46]] 0 ([[120], Dg.putV (a) 10 ++ [32]] : List (List UInt8)).flatten :=
  plays_of [([.c 58, .c 32, .c 110, .c 111, .c 119, .c 32, .c 46, .c 34, .c 32, .c 120, .c 34, .c 32, .c 59, .c 32, .c 105, .c 109, .c 109, .c 101, .c 100, .c 105, .c 97, .c 116, .c 101, .c 32, .c 58, .c 32, .c 102, .c 32, .c 110, .c 111, .c 119, .c 32, .n (a) 10, .c 32, .c 59, .c 32, .c 102, .c 32, .c 46], [])] (0) [[120], Dg.putV (a) 10 ++ [32]] [] (by kernel_rfl) (by kernel_rfl) (by kernel_rfl) (by kernel_rfl) (show allIn [a] from ⟨ha, trivial⟩) (fun p hp => by cases hp)
end Go.Proofs.YtompdfpjmdnhoabGreatDoor.Ou
namespace Go.Proofs.YtompdfpjmdnhoabGreatDoor.Ou
open Go.RowKit Go.Proofs.YtompdfpjmdnhoabGreatDoor.Rs Go.Proofs.YtompdfpjmdnhoabGreatDoor.Src Go.Proofs.YtompdfpjmdnhoabGreatDoor.Ft
set_option maxHeartbeats 8000000 in
set_option maxRecDepth 100000 in
theorem immediate_walk (a b : Int) (ha : Mc.In a) (hb : Mc.In b)  (w : World) (A : Ahead w w) :
    Calls Tryz.prog 3 #[.int .i64 a, .int .i64 b] w fun e w' => e = .returned (.bool true) ∧ Below w.heap.size w w' := by
  have HAl := Lib.hid (fun w1 A1 => alive_any w w1 A1)
  have HX := Lib.hid (fun w => num_any (a) ha w)
  obtain ⟨X, eX, sX⟩ := num_some (a) 10 ha (by decide)
  have HY := Lib.hid (fun w => num_any (b) hb w)
  obtain ⟨Y, eY, sY⟩ := num_some (b) 10 hb (by decide)
  have HM := Lib.hid (fun w => num_any (wrap64 (a * b)) (Mc.in_wr _) w)
  obtain ⟨M, eM, sM⟩ := num_some (wrap64 (a * b)) 10 (Mc.in_wr _) (by decide)
  have P1 := Lib.hid (fun w1 A1 => tells1 w (⟨#[58, 32, 109, 32]⟩ ++ X ++ ⟨#[32]⟩ ++ Y ++ ⟨#[32, 42, 32, 59, 32, 105, 109, 109, 101, 100, 105, 97, 116, 101, 32, 58, 32, 102, 32, 109, 32, 108, 105, 116, 101, 114, 97, 108, 32, 59, 32, 102, 32, 46]⟩) (M ++ ⟨#[32]⟩) _ _ (immediate1 a b ha hb) (by rw [(str_join _ _ (((([58, 32, 109, 32]) ++ Dg.putV (a) 10) ++ [32]) ++ Dg.putV (b) 10) ([32, 42, 32, 59, 32, 105, 109, 109, 101, 100, 105, 97, 116, 101, 32, 58, 32, 102, 32, 109, 32, 108, 105, 116, 101, 114, 97, 108, 32, 59, 32, 102, 32, 46]) (str_join _ _ ((([58, 32, 109, 32]) ++ Dg.putV (a) 10) ++ [32]) (Dg.putV (b) 10) (str_join _ _ (([58, 32, 109, 32]) ++ Dg.putV (a) 10) ([32]) (str_join _ _ ([58, 32, 109, 32]) (Dg.putV (a) 10) rfl eX) rfl) eY) rfl)]; simp [flat, Tk.bytes]) (by rw [(str_join _ _ (Dg.putV (wrap64 (a * b)) 10) ([32]) eM rfl), show wrap64 (a * b) = Mc.wr (a * b) from rfl]; simp) w1 A1)
  have P2 := Lib.hid (fun w1 A1 => tells1 w (⟨#[58, 32, 110, 111, 119, 32, 46, 34, 32, 120, 34, 32, 59, 32, 105, 109, 109, 101, 100, 105, 97, 116, 101, 32, 58, 32, 102, 32, 110, 111, 119, 32]⟩ ++ X ++ ⟨#[32, 59, 32, 102, 32, 46]⟩) (⟨#[120]⟩ ++ X ++ ⟨#[32]⟩) _ _ (immediate2 a ha) (by rw [(str_join _ _ (([58, 32, 110, 111, 119, 32, 46, 34, 32, 120, 34, 32, 59, 32, 105, 109, 109, 101, 100, 105, 97, 116, 101, 32, 58, 32, 102, 32, 110, 111, 119, 32]) ++ Dg.putV (a) 10) ([32, 59, 32, 102, 32, 46]) (str_join _ _ ([58, 32, 110, 111, 119, 32, 46, 34, 32, 120, 34, 32, 59, 32, 105, 109, 109, 101, 100, 105, 97, 116, 101, 32, 58, 32, 102, 32, 110, 111, 119, 32]) (Dg.putV (a) 10) rfl eX) rfl)]; simp [flat, Tk.bytes]) (by rw [(str_join _ _ (([120]) ++ Dg.putV (a) 10) ([32]) (str_join _ _ ([120]) (Dg.putV (a) 10) rfl eX) rfl)]; simp) w1 A1)
  rw [← eX] at HX
  rw [← eY] at HY
  rw [← eM] at HM
  have HA := Lib.hid A
  clear A eX eY eM ha hb
  go_enter Tryz.func3, Tryz.ntmps3
  go_wp2_with fail
  refine (HAl.out _ HA.out).mono ?_
  rintro e w1 ⟨rfl, k⟩
  have A1 := Lib.hid (HA.out.next k)
  have K1 := Lib.hid k
  clear k
  go_wp2_with fail
  refine (HM.out _).mono ?_
  rintro e w2 ⟨rfl, rfl⟩
  go_wp2_with fail
  refine (HX.out _).mono ?_
  rintro e w2 ⟨rfl, rfl⟩
  go_wp2_with fail
  refine (HY.out _).mono ?_
  rintro e w2 ⟨rfl, rfl⟩
  go_wp2_with fail
  refine (P1.out _ A1.out).mono ?_
  rintro e w2 ⟨rfl, k⟩
  have A2 := Lib.hid (A1.out.next k)
  have K2 := Lib.hid (K1.out.trans (k.mono K1.out.size))
  clear k K1 A1
  go_wp2_with fail
  refine (HX.out _).mono ?_
  rintro e w3 ⟨rfl, rfl⟩
  go_wp2_with fail
  refine (HX.out _).mono ?_
  rintro e w3 ⟨rfl, rfl⟩
  go_wp2_with fail
  refine (P2.out _ A2.out).mono ?_
  rintro e w3 ⟨rfl, k⟩
  have A3 := Lib.hid (A2.out.next k)
  have K3 := Lib.hid (K2.out.trans (k.mono K2.out.size))
  clear k K2 A2
  go_wp2_with fail
  go_ret
  exact ⟨rfl, K3.out⟩
end Go.Proofs.YtompdfpjmdnhoabGreatDoor.Ou
