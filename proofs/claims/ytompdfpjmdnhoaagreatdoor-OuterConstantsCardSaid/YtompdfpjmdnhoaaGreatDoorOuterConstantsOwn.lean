/-
  Lemmas on the way, for every input that they name: OvC, OqC.
-/
import Derived.Test.YtompdfpjmdnhoaaGreatDoorQ36
import Derived.Test.YtompdfpjmdnhoaaGreatDoorQ37
set_option linter.unusedVariables false
set_option linter.unusedSimpArgs false
set_option linter.deprecated false
namespace Go.Proofs.YtompdfpjmdnhoaaGreatDoor.Ou
open Go.RowKit Go.Proofs.YtompdfpjmdnhoaaGreatDoor.Mc
theorem constants1 (a b : Int) (ha : In a) (hb : In b)  : Plays [[.n (a) 10, .c 32, .c 99, .c 111, .c 110, .c 115, .c 116, .c 97, .c 110, .c 116, .c 32, .c 107, .c 32, .n (b) 10, .c 32, .c 99, .c 111, .c 110, .c 115, .c 116, .c 97, .c 110, .c 116, .c 32, .c 109, .c 32, .c 107, .c 32, .c 46, .c 32, .c 109, .c 32, .c 46]] 0 ([Dg.putV (a) 10 ++ [32], Dg.putV (b) 10 ++ [32]] : List (List UInt8)).flatten :=
  plays_of [([.n (a) 10, .c 32, .c 99, .c 111, .c 110, .c 115, .c 116, .c 97, .c 110, .c 116, .c 32, .c 107, .c 32, .n (b) 10, .c 32, .c 99, .c 111, .c 110, .c 115, .c 116, .c 97, .c 110, .c 116, .c 32, .c 109, .c 32, .c 107, .c 32, .c 46, .c 32, .c 109, .c 32, .c 46], [])] (0) [Dg.putV (a) 10 ++ [32], Dg.putV (b) 10 ++ [32]] [] (by kernel_rfl) (by kernel_rfl) (by kernel_rfl) (by kernel_rfl) (show allIn [a, b] from ⟨ha, hb, trivial⟩) (fun p hp => by cases hp)
theorem constants2 (a : Int) (ha : In a)  : Plays [[.c 118, .c 97, .c 114, .c 105, .c 97, .c 98, .c 108, .c 101, .c 32, .c 118, .c 32, .n (a) 10, .c 32, .c 118, .c 32, .c 33, .c 32, .c 118, .c 32, .c 64, .c 32, .c 46]] 0 ([Dg.putV (wr (0 + a)) 10 ++ [32]] : List (List UInt8)).flatten :=
  plays_of [([.c 118, .c 97, .c 114, .c 105, .c 97, .c 98, .c 108, .c 101, .c 32, .c 118, .c 32, .n (a) 10, .c 32, .c 118, .c 32, .c 33, .c 32, .c 118, .c 32, .c 64, .c 32, .c 46], [])] (0) [Dg.putV (wr (0 + a)) 10 ++ [32]] [] (by kernel_rfl) (by kernel_rfl) (by kernel_rfl) (by kernel_rfl) (show allIn [a] from ⟨ha, trivial⟩) (fun p hp => by cases hp)
theorem constants3 (a b : Int) (ha : In a) (hb : In b)  : Plays [[.c 118, .c 97, .c 114, .c 105, .c 97, .c 98, .c 108, .c 101, .c 32, .c 118, .c 32, .n (a) 10, .c 32, .c 118, .c 32, .c 33, .c 32, .n (b) 10, .c 32, .c 118, .c 32, .c 43, .c 33, .c 32, .c 118, .c 32, .c 64, .c 32, .c 46]] 0 ([Dg.putV (wr (wr (0 + a) + b)) 10 ++ [32]] : List (List UInt8)).flatten :=
  plays_of [([.c 118, .c 97, .c 114, .c 105, .c 97, .c 98, .c 108, .c 101, .c 32, .c 118, .c 32, .n (a) 10, .c 32, .c 118, .c 32, .c 33, .c 32, .n (b) 10, .c 32, .c 118, .c 32, .c 43, .c 33, .c 32, .c 118, .c 32, .c 64, .c 32, .c 46], [])] (0) [Dg.putV (wr (wr (0 + a) + b)) 10 ++ [32]] [] (by kernel_rfl) (by kernel_rfl) (by kernel_rfl) (by kernel_rfl) (show allIn [a, b] from ⟨ha, hb, trivial⟩) (fun p hp => by cases hp)
theorem constants4 (a b c : Int) (ha : In a) (hb : In b) (hc : In c)  : Plays [[.c 99, .c 114, .c 101, .c 97, .c 116, .c 101, .c 32, .c 116, .c 32, .n (a) 10, .c 32, .c 44, .c 32, .n (b) 10, .c 32, .c 44, .c 32, .n (c) 10, .c 32, .c 44, .c 32, .c 116, .c 32, .c 49, .c 32, .c 43, .c 32, .c 64, .c 32, .c 46, .c 32, .c 116, .c 32, .c 50, .c 32, .c 43, .c 32, .c 64, .c 32, .c 46]] 0 ([Dg.putV (b) 10 ++ [32], Dg.putV (c) 10 ++ [32]] : List (List UInt8)).flatten :=
  plays_of [([.c 99, .c 114, .c 101, .c 97, .c 116, .c 101, .c 32, .c 116, .c 32, .n (a) 10, .c 32, .c 44, .c 32, .n (b) 10, .c 32, .c 44, .c 32, .n (c) 10, .c 32, .c 44, .c 32, .c 116, .c 32, .c 49, .c 32, .c 43, .c 32, .c 64, .c 32, .c 46, .c 32, .c 116, .c 32, .c 50, .c 32, .c 43, .c 32, .c 64, .c 32, .c 46], [])] (0) [Dg.putV (b) 10 ++ [32], Dg.putV (c) 10 ++ [32]] [] (by kernel_rfl) (by kernel_rfl) (by kernel_rfl) (by kernel_rfl) (show allIn [a, b, c] from ⟨ha, hb, hc, trivial⟩) (fun p hp => by cases hp)
theorem constants5   : Plays [[.c 118, .c 97, .c 114, .c 105, .c 97, .c 98, .c 108, .c 101, .c 32, .c 118, .c 32, .c 118, .c 32, .c 64, .c 32, .c 46]] 0 ([Dg.putV (0) 10 ++ [32]] : List (List UInt8)).flatten :=
  plays_of [([.c 118, .c 97, .c 114, .c 105, .c 97, .c 98, .c 108, .c 101, .c 32, .c 118, .c 32, .c 118, .c 32, .c 64, .c 32, .c 46], [])] (0) [Dg.putV (0) 10 ++ [32]] [] (by kernel_rfl) (by kernel_rfl) (by kernel_rfl) (by kernel_rfl) (show allIn [] from trivial) (fun p hp => by cases hp)
end Go.Proofs.YtompdfpjmdnhoaaGreatDoor.Ou
namespace Go.Proofs.YtompdfpjmdnhoaaGreatDoor.Ou
open Go.RowKit Go.Proofs.YtompdfpjmdnhoaaGreatDoor.Rs Go.Proofs.YtompdfpjmdnhoaaGreatDoor.Src Go.Proofs.YtompdfpjmdnhoaaGreatDoor.Ft
set_option maxHeartbeats 8000000 in
set_option maxRecDepth 100000 in
theorem constants_walk (a b c : Int) (ha : Mc.In a) (hb : Mc.In b) (hc : Mc.In c) (w : World) (A : Ahead w w) :
    Calls Tryz.prog 5 #[.int .i64 a, .int .i64 b, .int .i64 c] w fun e w' => e = .returned (.bool true) ∧ Below w.heap.size w w' := by
  have HAl := Lib.hid (alive_any w w A)
  have HX := Lib.hid (fun w => num_any (a) ha w)
  obtain ⟨X, eX, sX⟩ := num_some (a) 10 ha (by decide)
  have HY := Lib.hid (fun w => num_any (b) hb w)
  obtain ⟨Y, eY, sY⟩ := num_some (b) 10 hb (by decide)
  have HZ := Lib.hid (fun w => num_any (c) hc w)
  obtain ⟨Z, eZ, sZ⟩ := num_some (c) 10 hc (by decide)
  have HM := Lib.hid (fun w => num_any (wrap64 (a + b)) (Mc.in_wr _) w)
  obtain ⟨M, eM, sM⟩ := num_some (wrap64 (a + b)) 10 (Mc.in_wr _) (by decide)
  have P1 := Lib.hid (fun w1 A1 => tells1 w (X ++ ⟨#[32, 99, 111, 110, 115, 116, 97, 110, 116, 32, 107, 32]⟩ ++ Y ++ ⟨#[32, 99, 111, 110, 115, 116, 97, 110, 116, 32, 109, 32, 107, 32, 46, 32, 109, 32, 46]⟩) (X ++ ⟨#[32]⟩ ++ Y ++ ⟨#[32]⟩) _ _ (constants1 a b ha hb) (by rw [(str_join _ _ (((Dg.putV (a) 10) ++ [32, 99, 111, 110, 115, 116, 97, 110, 116, 32, 107, 32]) ++ Dg.putV (b) 10) ([32, 99, 111, 110, 115, 116, 97, 110, 116, 32, 109, 32, 107, 32, 46, 32, 109, 32, 46]) (str_join _ _ ((Dg.putV (a) 10) ++ [32, 99, 111, 110, 115, 116, 97, 110, 116, 32, 107, 32]) (Dg.putV (b) 10) (str_join _ _ (Dg.putV (a) 10) ([32, 99, 111, 110, 115, 116, 97, 110, 116, 32, 107, 32]) eX rfl) eY) rfl)]; simp [flat, Tk.bytes]) (by rw [(str_join _ _ (((Dg.putV (a) 10) ++ [32]) ++ Dg.putV (b) 10) ([32]) (str_join _ _ ((Dg.putV (a) 10) ++ [32]) (Dg.putV (b) 10) (str_join _ _ (Dg.putV (a) 10) ([32]) eX rfl) eY) rfl)]; simp) w1 A1)
  have P2 := Lib.hid (fun w1 A1 => tells1 w (⟨#[118, 97, 114, 105, 97, 98, 108, 101, 32, 118, 32]⟩ ++ X ++ ⟨#[32, 118, 32, 33, 32, 118, 32, 64, 32, 46]⟩) (X ++ ⟨#[32]⟩) _ _ ((by have h := constants2 a ha; rw [wr0 ha] at h; exact h)) (by rw [(str_join _ _ (([118, 97, 114, 105, 97, 98, 108, 101, 32, 118, 32]) ++ Dg.putV (a) 10) ([32, 118, 32, 33, 32, 118, 32, 64, 32, 46]) (str_join _ _ ([118, 97, 114, 105, 97, 98, 108, 101, 32, 118, 32]) (Dg.putV (a) 10) rfl eX) rfl)]; simp [flat, Tk.bytes]) (by rw [(str_join _ _ (Dg.putV (a) 10) ([32]) eX rfl)]; simp) w1 A1)
  have P3 := Lib.hid (fun w1 A1 => tells1 w (⟨#[118, 97, 114, 105, 97, 98, 108, 101, 32, 118, 32]⟩ ++ X ++ ⟨#[32, 118, 32, 33, 32]⟩ ++ Y ++ ⟨#[32, 118, 32, 43, 33, 32, 118, 32, 64, 32, 46]⟩) (M ++ ⟨#[32]⟩) _ _ ((by have h := constants3 a b ha hb; rw [wr0 ha] at h; exact h)) (by rw [(str_join _ _ (((([118, 97, 114, 105, 97, 98, 108, 101, 32, 118, 32]) ++ Dg.putV (a) 10) ++ [32, 118, 32, 33, 32]) ++ Dg.putV (b) 10) ([32, 118, 32, 43, 33, 32, 118, 32, 64, 32, 46]) (str_join _ _ ((([118, 97, 114, 105, 97, 98, 108, 101, 32, 118, 32]) ++ Dg.putV (a) 10) ++ [32, 118, 32, 33, 32]) (Dg.putV (b) 10) (str_join _ _ (([118, 97, 114, 105, 97, 98, 108, 101, 32, 118, 32]) ++ Dg.putV (a) 10) ([32, 118, 32, 33, 32]) (str_join _ _ ([118, 97, 114, 105, 97, 98, 108, 101, 32, 118, 32]) (Dg.putV (a) 10) rfl eX) rfl) eY) rfl)]; simp [flat, Tk.bytes]) (by rw [(str_join _ _ (Dg.putV (wrap64 (a + b)) 10) ([32]) eM rfl), show wrap64 (a + b) = Mc.wr (a + b) from rfl]; simp) w1 A1)
  have P4 := Lib.hid (fun w1 A1 => tells1 w (⟨#[99, 114, 101, 97, 116, 101, 32, 116, 32]⟩ ++ X ++ ⟨#[32, 44, 32]⟩ ++ Y ++ ⟨#[32, 44, 32]⟩ ++ Z ++ ⟨#[32, 44, 32, 116, 32, 49, 32, 43, 32, 64, 32, 46, 32, 116, 32, 50, 32, 43, 32, 64, 32, 46]⟩) (Y ++ ⟨#[32]⟩ ++ Z ++ ⟨#[32]⟩) _ _ (constants4 a b c ha hb hc) (by rw [(str_join _ _ (((((([99, 114, 101, 97, 116, 101, 32, 116, 32]) ++ Dg.putV (a) 10) ++ [32, 44, 32]) ++ Dg.putV (b) 10) ++ [32, 44, 32]) ++ Dg.putV (c) 10) ([32, 44, 32, 116, 32, 49, 32, 43, 32, 64, 32, 46, 32, 116, 32, 50, 32, 43, 32, 64, 32, 46]) (str_join _ _ ((((([99, 114, 101, 97, 116, 101, 32, 116, 32]) ++ Dg.putV (a) 10) ++ [32, 44, 32]) ++ Dg.putV (b) 10) ++ [32, 44, 32]) (Dg.putV (c) 10) (str_join _ _ (((([99, 114, 101, 97, 116, 101, 32, 116, 32]) ++ Dg.putV (a) 10) ++ [32, 44, 32]) ++ Dg.putV (b) 10) ([32, 44, 32]) (str_join _ _ ((([99, 114, 101, 97, 116, 101, 32, 116, 32]) ++ Dg.putV (a) 10) ++ [32, 44, 32]) (Dg.putV (b) 10) (str_join _ _ (([99, 114, 101, 97, 116, 101, 32, 116, 32]) ++ Dg.putV (a) 10) ([32, 44, 32]) (str_join _ _ ([99, 114, 101, 97, 116, 101, 32, 116, 32]) (Dg.putV (a) 10) rfl eX) rfl) eY) rfl) eZ) rfl)]; simp [flat, Tk.bytes]) (by rw [(str_join _ _ (((Dg.putV (b) 10) ++ [32]) ++ Dg.putV (c) 10) ([32]) (str_join _ _ ((Dg.putV (b) 10) ++ [32]) (Dg.putV (c) 10) (str_join _ _ (Dg.putV (b) 10) ([32]) eY rfl) eZ) rfl)]; simp) w1 A1)
  have P5 := Lib.hid (fun w1 A1 => tells1 w (⟨#[118, 97, 114, 105, 97, 98, 108, 101, 32, 118, 32, 118, 32, 64, 32, 46]⟩) (⟨#[48, 32]⟩) _ _ ((by have h := constants5; rw [put0] at h; exact h)) rfl rfl w1 A1)
  rw [← eX] at HX
  rw [← eY] at HY
  rw [← eZ] at HZ
  rw [← eM] at HM
  have HA := Lib.hid A
  clear A eX eY eZ eM ha hb hc
  go_enter Tryz.func5, Tryz.ntmps5
  go_wp2_with fail
  refine HAl.out.mono ?_
  rintro e w1 ⟨rfl, k⟩
  have A1 := Lib.hid (HA.out.next k)
  have K1 := Lib.hid k
  clear k HAl
  go_wp2_with fail
  refine (HX.out _).mono ?_
  rintro e w2 ⟨rfl, rfl⟩
  go_wp2_with fail
  refine (HY.out _).mono ?_
  rintro e w2 ⟨rfl, rfl⟩
  go_wp2_with fail
  refine (HZ.out _).mono ?_
  rintro e w2 ⟨rfl, rfl⟩
  go_wp2_with fail
  refine (HX.out _).mono ?_
  rintro e w2 ⟨rfl, rfl⟩
  go_wp2_with fail
  refine (HY.out _).mono ?_
  rintro e w2 ⟨rfl, rfl⟩
  go_wp2_with fail
  refine (P1.out _ A1.out).mono ?_
  rintro e w2 ⟨rfl, k⟩
  have A2 := Lib.hid (A1.out.next k)
  have K2 := Lib.hid (K1.out.trans (k.mono K1.out.size))
  clear k K1 A1 P1
  go_wp2_with fail
  refine (HX.out _).mono ?_
  rintro e w3 ⟨rfl, rfl⟩
  go_wp2_with fail
  refine (P2.out _ A2.out).mono ?_
  rintro e w3 ⟨rfl, k⟩
  have A3 := Lib.hid (A2.out.next k)
  have K3 := Lib.hid (K2.out.trans (k.mono K2.out.size))
  clear k K2 A2 P2
  go_wp2_with fail
  refine (HM.out _).mono ?_
  rintro e w4 ⟨rfl, rfl⟩
  go_wp2_with fail
  refine (P3.out _ A3.out).mono ?_
  rintro e w4 ⟨rfl, k⟩
  have A4 := Lib.hid (A3.out.next k)
  have K4 := Lib.hid (K3.out.trans (k.mono K3.out.size))
  clear k K3 A3 P3
  go_wp2_with fail
  refine (HY.out _).mono ?_
  rintro e w5 ⟨rfl, rfl⟩
  go_wp2_with fail
  refine (HZ.out _).mono ?_
  rintro e w5 ⟨rfl, rfl⟩
  go_wp2_with fail
  refine (P4.out _ A4.out).mono ?_
  rintro e w5 ⟨rfl, k⟩
  have A5 := Lib.hid (A4.out.next k)
  have K5 := Lib.hid (K4.out.trans (k.mono K4.out.size))
  clear k K4 A4 P4
  go_wp2_with fail
  refine (P5.out _ A5.out).mono ?_
  rintro e w6 ⟨rfl, k⟩
  have A6 := Lib.hid (A5.out.next k)
  have K6 := Lib.hid (K5.out.trans (k.mono K5.out.size))
  clear k K5 A5 P5
  go_wp2_with fail
  go_ret
  exact ⟨rfl, K6.out⟩
end Go.Proofs.YtompdfpjmdnhoaaGreatDoor.Ou
