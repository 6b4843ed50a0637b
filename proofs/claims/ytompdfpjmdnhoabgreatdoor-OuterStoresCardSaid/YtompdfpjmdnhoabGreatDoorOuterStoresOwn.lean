/-
  Lemmas on the way, for every input that they name: OvT, OqS.
-/
import Derived.Test.YtompdfpjmdnhoabGreatDoorQ36
import Derived.Test.YtompdfpjmdnhoabGreatDoorQ37
set_option linter.unusedVariables false
set_option linter.unusedSimpArgs false
set_option linter.deprecated false
namespace Go.Proofs.YtompdfpjmdnhoabGreatDoor.Ou
open Go.RowKit Go.Proofs.YtompdfpjmdnhoabGreatDoor.Mc
theorem stores1 (a b : Int) (ha : In a) (hb : In b)  : Plays [[.c 58, .c 32, .c 102, .c 32, .n (a) 10, .c 32, .c 59, .c 32, .c 102, .c 32, .c 46, .c 32, .n (b) 10, .c 32, .c 39, .c 32, .c 102, .c 32, .c 49, .c 32, .c 43, .c 32, .c 33, .c 32, .c 102, .c 32, .c 46]] 0 ([Dg.putV (a) 10 ++ [32], Dg.putV (wr (0 + b)) 10 ++ [32]] : List (List UInt8)).flatten :=
  plays_of [([.c 58, .c 32, .c 102, .c 32, .n (a) 10, .c 32, .c 59, .c 32, .c 102, .c 32, .c 46, .c 32, .n (b) 10, .c 32, .c 39, .c 32, .c 102, .c 32, .c 49, .c 32, .c 43, .c 32, .c 33, .c 32, .c 102, .c 32, .c 46], [])] (0) [Dg.putV (a) 10 ++ [32], Dg.putV (wr (0 + b)) 10 ++ [32]] [] (by kernel_rfl) (by kernel_rfl) (by kernel_rfl) (by kernel_rfl) (show allIn [a, b] from ⟨ha, hb, trivial⟩) (fun p hp => by cases hp)
end Go.Proofs.YtompdfpjmdnhoabGreatDoor.Ou
namespace Go.Proofs.YtompdfpjmdnhoabGreatDoor.Ou
open Go.RowKit Go.Proofs.YtompdfpjmdnhoabGreatDoor.Rs Go.Proofs.YtompdfpjmdnhoabGreatDoor.Src Go.Proofs.YtompdfpjmdnhoabGreatDoor.Ft
set_option maxHeartbeats 8000000 in
set_option maxRecDepth 100000 in
theorem stores_walk (a b : Int) (ha : Mc.In a) (hb : Mc.In b)  (w : World) (A : Ahead w w) :
    Calls Tryz.prog 4 #[.int .i64 a, .int .i64 b] w fun e w' => e = .returned (.bool true) ∧ Below w.heap.size w w' := by
  have HAl := Lib.hid (fun w1 A1 => alive_any w w1 A1)
  have HX := Lib.hid (fun w => num_any (a) ha w)
  obtain ⟨X, eX, sX⟩ := num_some (a) 10 ha (by decide)
  have HY := Lib.hid (fun w => num_any (b) hb w)
  obtain ⟨Y, eY, sY⟩ := num_some (b) 10 hb (by decide)
  have P1 := Lib.hid (fun w1 A1 => tells1 w (⟨#[58, 32, 102, 32]⟩ ++ X ++ ⟨#[32, 59, 32, 102, 32, 46, 32]⟩ ++ Y ++ ⟨#[32, 39, 32, 102, 32, 49, 32, 43, 32, 33, 32, 102, 32, 46]⟩) (X ++ ⟨#[32]⟩ ++ Y ++ ⟨#[32]⟩) _ _ (by have h := stores1 a b ha hb; rw [wr0 hb] at h; exact h) (by rw [(str_join _ _ (((([58, 32, 102, 32]) ++ Dg.putV (a) 10) ++ [32, 59, 32, 102, 32, 46, 32]) ++ Dg.putV (b) 10) ([32, 39, 32, 102, 32, 49, 32, 43, 32, 33, 32, 102, 32, 46]) (str_join _ _ ((([58, 32, 102, 32]) ++ Dg.putV (a) 10) ++ [32, 59, 32, 102, 32, 46, 32]) (Dg.putV (b) 10) (str_join _ _ (([58, 32, 102, 32]) ++ Dg.putV (a) 10) ([32, 59, 32, 102, 32, 46, 32]) (str_join _ _ ([58, 32, 102, 32]) (Dg.putV (a) 10) rfl eX) rfl) eY) rfl)]; simp [flat, Tk.bytes]) (by rw [(str_join _ _ (((Dg.putV (a) 10) ++ [32]) ++ Dg.putV (b) 10) ([32]) (str_join _ _ ((Dg.putV (a) 10) ++ [32]) (Dg.putV (b) 10) (str_join _ _ (Dg.putV (a) 10) ([32]) eX rfl) eY) rfl)]; simp) w1 A1)
  rw [← eX] at HX
  rw [← eY] at HY
  have HA := Lib.hid A
  clear A eX eY ha hb
  go_enter Tryz.func4, Tryz.ntmps4
  go_wp2_with fail
  refine (HAl.out _ HA.out).mono ?_
  rintro e w1 ⟨rfl, k⟩
  have A1 := Lib.hid (HA.out.next k)
  have K1 := Lib.hid k
  clear k
  go_wp2_with fail
  refine (HX.out _).mono ?_
  rintro e w2 ⟨rfl, rfl⟩
  go_wp2_with fail
  refine (HY.out _).mono ?_
  rintro e w2 ⟨rfl, rfl⟩
  go_wp2_with fail
  refine (HX.out _).mono ?_
  rintro e w2 ⟨rfl, rfl⟩
  go_wp2_with fail
  refine (HY.out _).mono ?_
  rintro e w2 ⟨rfl, rfl⟩
  go_wp2_with fail
  refine (P1.out _ A1.out).mono ?_
  rintro e w2 ⟨rfl, k⟩
  have A2 := Lib.hid (A1.out.next k)
  have K2 := Lib.hid (K1.out.trans (k.mono K1.out.size))
  clear k K1 A1
  go_wp2_with fail
  go_ret
  exact ⟨rfl, K2.out⟩
end Go.Proofs.YtompdfpjmdnhoabGreatDoor.Ou
