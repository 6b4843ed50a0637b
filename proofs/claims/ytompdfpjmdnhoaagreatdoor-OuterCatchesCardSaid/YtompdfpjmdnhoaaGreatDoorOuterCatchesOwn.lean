/-
  Lemmas on the way, for every input that they name: OvT, OqA.
-/
import Derived.Test.YtompdfpjmdnhoaaGreatDoorQ36
import Derived.Test.YtompdfpjmdnhoaaGreatDoorQ37
set_option linter.unusedVariables false
set_option linter.unusedSimpArgs false
set_option linter.deprecated false
namespace Go.Proofs.YtompdfpjmdnhoaaGreatDoor.Ou
open Go.RowKit Go.Proofs.YtompdfpjmdnhoaaGreatDoor.Mc
theorem catches1 (b : Int) (hb : In b) (h0 : decide (b = 0) = false) : Plays [[.n (b) 10, .c 32, .c 116, .c 104, .c 114, .c 111, .c 119]] b ([] : List (List UInt8)).flatten :=
  plays_of [([.n (b) 10, .c 32, .c 116, .c 104, .c 114, .c 111, .c 119], [some false])] (b) [] [(decide (b = 0), false)] (by kernel_rfl) (by kernel_rfl) (by kernel_rfl) (by kernel_rfl) (show allIn [b] from ⟨hb, trivial⟩) (by intro p hp; simp only [List.mem_cons, List.not_mem_nil, or_false] at hp; subst hp; assumption)
theorem catches2 (b : Int) (hb : In b) (h0 : decide (b = 0) = true) : Plays [[.n (b) 10, .c 32, .c 116, .c 104, .c 114, .c 111, .c 119]] 0 ([] : List (List UInt8)).flatten :=
  plays_of [([.n (b) 10, .c 32, .c 116, .c 104, .c 114, .c 111, .c 119], [some true])] (0) [] [(decide (b = 0), true)] (by kernel_rfl) (by kernel_rfl) (by kernel_rfl) (by kernel_rfl) (show allIn [b] from ⟨hb, trivial⟩) (by intro p hp; simp only [List.mem_cons, List.not_mem_nil, or_false] at hp; subst hp; assumption)
theorem catches3 (a b : Int) (ha : In a) (hb : In b) (h0 : decide (b = 0) = false) : Plays [[.c 58, .c 32, .c 102, .c 32, .c 49, .c 32, .c 50, .c 32, .c 51, .c 32, .n (b) 10, .c 32, .c 116, .c 104, .c 114, .c 111, .c 119, .c 32, .c 59, .c 32, .c 58, .c 32, .c 103, .c 32, .c 91, .c 39, .c 93, .c 32, .c 102, .c 32, .c 99, .c 97, .c 116, .c 99, .c 104, .c 32, .c 59, .c 32, .n (a) 10, .c 32, .c 103, .c 32, .c 46, .c 32, .c 32, .c 46]] 0 ([Dg.putV (b) 10 ++ [32], Dg.putV (a) 10 ++ [32]] : List (List UInt8)).flatten :=
  plays_of [([.c 58, .c 32, .c 102, .c 32, .c 49, .c 32, .c 50, .c 32, .c 51, .c 32, .n (b) 10, .c 32, .c 116, .c 104, .c 114, .c 111, .c 119, .c 32, .c 59, .c 32, .c 58, .c 32, .c 103, .c 32, .c 91, .c 39, .c 93, .c 32, .c 102, .c 32, .c 99, .c 97, .c 116, .c 99, .c 104, .c 32, .c 59, .c 32, .n (a) 10, .c 32, .c 103, .c 32, .c 46, .c 32, .c 32, .c 46], [some false])] (0) [Dg.putV (b) 10 ++ [32], Dg.putV (a) 10 ++ [32]] [(decide (b = 0), false)] (by kernel_rfl) (by kernel_rfl) (by kernel_rfl) (by kernel_rfl) (show allIn [b, a] from ⟨hb, ha, trivial⟩) (by intro p hp; simp only [List.mem_cons, List.not_mem_nil, or_false] at hp; subst hp; assumption)
theorem catches4 (a b : Int) (ha : In a) (hb : In b) (h0 : decide (b = 0) = true) : Plays [[.c 58, .c 32, .c 102, .c 32, .c 49, .c 32, .c 50, .c 32, .c 51, .c 32, .n (b) 10, .c 32, .c 116, .c 104, .c 114, .c 111, .c 119, .c 32, .c 59, .c 32, .c 58, .c 32, .c 103, .c 32, .c 91, .c 39, .c 93, .c 32, .c 102, .c 32, .c 99, .c 97, .c 116, .c 99, .c 104, .c 32, .c 59, .c 32, .n (a) 10, .c 32, .c 103, .c 32, .c 46, .c 32, .c 100, .c 114, .c 111, .c 112, .c 32, .c 100, .c 114, .c 111, .c 112, .c 32, .c 100, .c 114, .c 111, .c 112, .c 32, .c 46]] 0 ([Dg.putV (0) 10 ++ [32], Dg.putV (a) 10 ++ [32]] : List (List UInt8)).flatten :=
  plays_of [([.c 58, .c 32, .c 102, .c 32, .c 49, .c 32, .c 50, .c 32, .c 51, .c 32, .n (b) 10, .c 32, .c 116, .c 104, .c 114, .c 111, .c 119, .c 32, .c 59, .c 32, .c 58, .c 32, .c 103, .c 32, .c 91, .c 39, .c 93, .c 32, .c 102, .c 32, .c 99, .c 97, .c 116, .c 99, .c 104, .c 32, .c 59, .c 32, .n (a) 10, .c 32, .c 103, .c 32, .c 46, .c 32, .c 100, .c 114, .c 111, .c 112, .c 32, .c 100, .c 114, .c 111, .c 112, .c 32, .c 100, .c 114, .c 111, .c 112, .c 32, .c 46], [some true])] (0) [Dg.putV (0) 10 ++ [32], Dg.putV (a) 10 ++ [32]] [(decide (b = 0), true)] (by kernel_rfl) (by kernel_rfl) (by kernel_rfl) (by kernel_rfl) (show allIn [b, a] from ⟨hb, ha, trivial⟩) (by intro p hp; simp only [List.mem_cons, List.not_mem_nil, or_false] at hp; subst hp; assumption)
theorem catches5   : Plays [[.c 58, .c 32, .c 122, .c 32, .c 49, .c 32, .c 48, .c 32, .c 47, .c 32, .c 59, .c 32, .c 58, .c 32, .c 103, .c 32, .c 91, .c 39, .c 93, .c 32, .c 122, .c 32, .c 99, .c 97, .c 116, .c 99, .c 104, .c 32, .c 59, .c 32, .c 103, .c 32, .c 46]] 0 ([Dg.putV (-10) 10 ++ [32]] : List (List UInt8)).flatten :=
  plays_of [([.c 58, .c 32, .c 122, .c 32, .c 49, .c 32, .c 48, .c 32, .c 47, .c 32, .c 59, .c 32, .c 58, .c 32, .c 103, .c 32, .c 91, .c 39, .c 93, .c 32, .c 122, .c 32, .c 99, .c 97, .c 116, .c 99, .c 104, .c 32, .c 59, .c 32, .c 103, .c 32, .c 46], [])] (0) [Dg.putV (-10) 10 ++ [32]] [] (by kernel_rfl) (by kernel_rfl) (by kernel_rfl) (by kernel_rfl) (show allIn [] from trivial) (fun p hp => by cases hp)
end Go.Proofs.YtompdfpjmdnhoaaGreatDoor.Ou
namespace Go.Proofs.YtompdfpjmdnhoaaGreatDoor.Ou
open Go.RowKit Go.Proofs.YtompdfpjmdnhoaaGreatDoor.Rs Go.Proofs.YtompdfpjmdnhoaaGreatDoor.Src Go.Proofs.YtompdfpjmdnhoaaGreatDoor.Ft
theorem dropped0 (b : Int) (h : decide (b = 0) = true) (w : World) : Calls Tryz.prog 20 #[.int .i64 b] w fun e w' => e = .returned (.string ⟨#[100, 114, 111, 112, 32, 100, 114, 111, 112, 32, 100, 114, 111, 112]⟩) ∧ w = w' := by
  have h2 : (b == 0) = true := by simpa using h
  go_enter Tryz.func20, Tryz.ntmps20
  go_wp2_with fail
  go_ret
  exact ⟨rfl, rfl⟩
theorem dropped1 (b : Int) (h : decide (b = 0) = false) (w : World) : Calls Tryz.prog 20 #[.int .i64 b] w fun e w' => e = .returned (.string ⟨#[]⟩) ∧ w = w' := by
  have h2 : (b == 0) = false := by simpa using h
  go_enter Tryz.func20, Tryz.ntmps20
  go_wp2_with fail
  go_ret
  exact ⟨rfl, rfl⟩
set_option maxHeartbeats 8000000 in
set_option maxRecDepth 100000 in
theorem catches_w0 (a b : Int) (ha : Mc.In a) (hb : Mc.In b)  (h0 : decide (b = 0) = true) (w : World) (A : Ahead w w) :
    Calls Tryz.prog 11 #[.int .i64 a, .int .i64 b] w fun e w' => e = .returned (.bool true) ∧ Below w.heap.size w w' := by
  have HAl := Lib.hid (fun w1 A1 => alive_any w w1 A1)
  have HD := Lib.hid (fun w => dropped0 b h0 w)
  have hb0 : b = 0 := by simpa using h0
  have HX := Lib.hid (fun w => num_any (a) ha w)
  obtain ⟨X, eX, sX⟩ := num_some (a) 10 ha (by decide)
  have HY := Lib.hid (fun w => num_any (b) hb w)
  obtain ⟨Y, eY, sY⟩ := num_some (b) 10 hb (by decide)
  have HC := Lib.hid (fun w => num_any (-10) (by unfold Mc.In; omega) w)
  obtain ⟨C, eC, sC⟩ := num_some (-10) 10 (by unfold Mc.In; omega) (by decide)
  have P1 := Lib.hid (fun w1 A1 => play1 w (Y ++ ⟨#[32, 116, 104, 114, 111, 119]⟩) _ _ _ (catches2 b hb h0) (by rw [(str_join _ _ (Dg.putV (b) 10) ([32, 116, 104, 114, 111, 119]) eY rfl)]; simp [flat, Tk.bytes]) (⟨#[]⟩) rfl w1 A1)
  have P2 := Lib.hid (fun w1 A1 => tells1 w (⟨#[58, 32, 102, 32, 49, 32, 50, 32, 51, 32]⟩ ++ Y ++ ⟨#[32, 116, 104, 114, 111, 119, 32, 59, 32, 58, 32, 103, 32, 91, 39, 93, 32, 102, 32, 99, 97, 116, 99, 104, 32, 59, 32]⟩ ++ X ++ ⟨#[32, 103, 32, 46, 32]⟩ ++ ⟨#[100, 114, 111, 112, 32, 100, 114, 111, 112, 32, 100, 114, 111, 112]⟩ ++ ⟨#[32, 46]⟩) (Y ++ ⟨#[32]⟩ ++ X ++ ⟨#[32]⟩) _ _ (catches4 a b ha hb h0) (by rw [(str_join _ _ (((((([58, 32, 102, 32, 49, 32, 50, 32, 51, 32]) ++ Dg.putV (b) 10) ++ [32, 116, 104, 114, 111, 119, 32, 59, 32, 58, 32, 103, 32, 91, 39, 93, 32, 102, 32, 99, 97, 116, 99, 104, 32, 59, 32]) ++ Dg.putV (a) 10) ++ [32, 103, 32, 46, 32]) ++ [100, 114, 111, 112, 32, 100, 114, 111, 112, 32, 100, 114, 111, 112]) ([32, 46]) (str_join _ _ ((((([58, 32, 102, 32, 49, 32, 50, 32, 51, 32]) ++ Dg.putV (b) 10) ++ [32, 116, 104, 114, 111, 119, 32, 59, 32, 58, 32, 103, 32, 91, 39, 93, 32, 102, 32, 99, 97, 116, 99, 104, 32, 59, 32]) ++ Dg.putV (a) 10) ++ [32, 103, 32, 46, 32]) ([100, 114, 111, 112, 32, 100, 114, 111, 112, 32, 100, 114, 111, 112]) (str_join _ _ (((([58, 32, 102, 32, 49, 32, 50, 32, 51, 32]) ++ Dg.putV (b) 10) ++ [32, 116, 104, 114, 111, 119, 32, 59, 32, 58, 32, 103, 32, 91, 39, 93, 32, 102, 32, 99, 97, 116, 99, 104, 32, 59, 32]) ++ Dg.putV (a) 10) ([32, 103, 32, 46, 32]) (str_join _ _ ((([58, 32, 102, 32, 49, 32, 50, 32, 51, 32]) ++ Dg.putV (b) 10) ++ [32, 116, 104, 114, 111, 119, 32, 59, 32, 58, 32, 103, 32, 91, 39, 93, 32, 102, 32, 99, 97, 116, 99, 104, 32, 59, 32]) (Dg.putV (a) 10) (str_join _ _ (([58, 32, 102, 32, 49, 32, 50, 32, 51, 32]) ++ Dg.putV (b) 10) ([32, 116, 104, 114, 111, 119, 32, 59, 32, 58, 32, 103, 32, 91, 39, 93, 32, 102, 32, 99, 97, 116, 99, 104, 32, 59, 32]) (str_join _ _ ([58, 32, 102, 32, 49, 32, 50, 32, 51, 32]) (Dg.putV (b) 10) rfl eY) rfl) eX) rfl) rfl) rfl)]; simp [flat, Tk.bytes]) (by rw [(str_join _ _ (((Dg.putV (b) 10) ++ [32]) ++ Dg.putV (a) 10) ([32]) (str_join _ _ ((Dg.putV (b) 10) ++ [32]) (Dg.putV (a) 10) (str_join _ _ (Dg.putV (b) 10) ([32]) eY rfl) eX) rfl), hb0]; simp) w1 A1)
  have P3 := Lib.hid (fun w1 A1 => tells1 w (⟨#[58, 32, 122, 32, 49, 32, 48, 32, 47, 32, 59, 32, 58, 32, 103, 32, 91, 39, 93, 32, 122, 32, 99, 97, 116, 99, 104, 32, 59, 32, 103, 32, 46]⟩) (C ++ ⟨#[32]⟩) _ _ (catches5) rfl (by rw [(str_join _ _ (Dg.putV (-10) 10) ([32]) eC rfl)]; simp) w1 A1)
  rw [← eX] at HX
  rw [← eY] at HY
  rw [← eC] at HC
  subst hb0
  have HA := Lib.hid A
  clear A eX eY eC ha hb
  go_enter Tryz.func11, Tryz.ntmps11
  go_wp2_with fail
  refine (HAl.out _ HA.out).mono ?_
  rintro e w1 ⟨rfl, k⟩
  have A1 := Lib.hid (HA.out.next k)
  have K1 := Lib.hid k
  clear k
  go_wp2_with fail
  refine (HY.out _).mono ?_
  rintro e w2 ⟨rfl, rfl⟩
  go_wp2_with fail
  refine (HX.out _).mono ?_
  rintro e w2 ⟨rfl, rfl⟩
  go_wp2_with fail
  refine (HY.out _).mono ?_
  rintro e w2 ⟨rfl, rfl⟩
  go_wp2_with fail
  refine (P1.out _ A1.out).mono ?_
  rintro e w2 ⟨rfl, k⟩
  have A2 := Lib.hid (A1.out.next k)
  have K2 := Lib.hid (K1.out.trans (k.mono K1.out.size))
  clear k K1 A1
  go_wp2_with fail
  refine (HC.out _).mono ?_
  rintro e w3 ⟨rfl, rfl⟩
  go_wp2_with fail
  refine (HY.out _).mono ?_
  rintro e w3 ⟨rfl, rfl⟩
  go_wp2_with fail
  refine (HX.out _).mono ?_
  rintro e w3 ⟨rfl, rfl⟩
  go_wp2_with fail
  refine (HD.out _).mono ?_
  rintro e wd ⟨rfl, rfl⟩
  go_wp2_with fail
  refine (P2.out _ A2.out).mono ?_
  rintro e w3 ⟨rfl, k⟩
  have A3 := Lib.hid (A2.out.next k)
  have K3 := Lib.hid (K2.out.trans (k.mono K2.out.size))
  clear k K2 A2
  go_wp2_with fail
  refine (P3.out _ A3.out).mono ?_
  rintro e w4 ⟨rfl, k⟩
  have A4 := Lib.hid (A3.out.next k)
  have K4 := Lib.hid (K3.out.trans (k.mono K3.out.size))
  clear k K3 A3
  go_wp2_with fail
  go_ret
  exact ⟨rfl, K4.out⟩
set_option maxHeartbeats 8000000 in
set_option maxRecDepth 100000 in
theorem catches_w1 (a b : Int) (ha : Mc.In a) (hb : Mc.In b)  (h0 : decide (b = 0) = false) (w : World) (A : Ahead w w) :
    Calls Tryz.prog 11 #[.int .i64 a, .int .i64 b] w fun e w' => e = .returned (.bool true) ∧ Below w.heap.size w w' := by
  have HAl := Lib.hid (fun w1 A1 => alive_any w w1 A1)
  have HD := Lib.hid (fun w => dropped1 b h0 w)
  have HX := Lib.hid (fun w => num_any (a) ha w)
  obtain ⟨X, eX, sX⟩ := num_some (a) 10 ha (by decide)
  have HY := Lib.hid (fun w => num_any (b) hb w)
  obtain ⟨Y, eY, sY⟩ := num_some (b) 10 hb (by decide)
  have HC := Lib.hid (fun w => num_any (-10) (by unfold Mc.In; omega) w)
  obtain ⟨C, eC, sC⟩ := num_some (-10) 10 (by unfold Mc.In; omega) (by decide)
  have P1 := Lib.hid (fun w1 A1 => play1 w (Y ++ ⟨#[32, 116, 104, 114, 111, 119]⟩) _ _ _ (catches1 b hb h0) (by rw [(str_join _ _ (Dg.putV (b) 10) ([32, 116, 104, 114, 111, 119]) eY rfl)]; simp [flat, Tk.bytes]) (⟨#[]⟩) rfl w1 A1)
  have P2 := Lib.hid (fun w1 A1 => tells1 w (⟨#[58, 32, 102, 32, 49, 32, 50, 32, 51, 32]⟩ ++ Y ++ ⟨#[32, 116, 104, 114, 111, 119, 32, 59, 32, 58, 32, 103, 32, 91, 39, 93, 32, 102, 32, 99, 97, 116, 99, 104, 32, 59, 32]⟩ ++ X ++ ⟨#[32, 103, 32, 46, 32]⟩ ++ ⟨#[]⟩ ++ ⟨#[32, 46]⟩) (Y ++ ⟨#[32]⟩ ++ X ++ ⟨#[32]⟩) _ _ (catches3 a b ha hb h0) (by rw [(str_join _ _ (((((([58, 32, 102, 32, 49, 32, 50, 32, 51, 32]) ++ Dg.putV (b) 10) ++ [32, 116, 104, 114, 111, 119, 32, 59, 32, 58, 32, 103, 32, 91, 39, 93, 32, 102, 32, 99, 97, 116, 99, 104, 32, 59, 32]) ++ Dg.putV (a) 10) ++ [32, 103, 32, 46, 32]) ++ []) ([32, 46]) (str_join _ _ ((((([58, 32, 102, 32, 49, 32, 50, 32, 51, 32]) ++ Dg.putV (b) 10) ++ [32, 116, 104, 114, 111, 119, 32, 59, 32, 58, 32, 103, 32, 91, 39, 93, 32, 102, 32, 99, 97, 116, 99, 104, 32, 59, 32]) ++ Dg.putV (a) 10) ++ [32, 103, 32, 46, 32]) ([]) (str_join _ _ (((([58, 32, 102, 32, 49, 32, 50, 32, 51, 32]) ++ Dg.putV (b) 10) ++ [32, 116, 104, 114, 111, 119, 32, 59, 32, 58, 32, 103, 32, 91, 39, 93, 32, 102, 32, 99, 97, 116, 99, 104, 32, 59, 32]) ++ Dg.putV (a) 10) ([32, 103, 32, 46, 32]) (str_join _ _ ((([58, 32, 102, 32, 49, 32, 50, 32, 51, 32]) ++ Dg.putV (b) 10) ++ [32, 116, 104, 114, 111, 119, 32, 59, 32, 58, 32, 103, 32, 91, 39, 93, 32, 102, 32, 99, 97, 116, 99, 104, 32, 59, 32]) (Dg.putV (a) 10) (str_join _ _ (([58, 32, 102, 32, 49, 32, 50, 32, 51, 32]) ++ Dg.putV (b) 10) ([32, 116, 104, 114, 111, 119, 32, 59, 32, 58, 32, 103, 32, 91, 39, 93, 32, 102, 32, 99, 97, 116, 99, 104, 32, 59, 32]) (str_join _ _ ([58, 32, 102, 32, 49, 32, 50, 32, 51, 32]) (Dg.putV (b) 10) rfl eY) rfl) eX) rfl) rfl) rfl)]; simp [flat, Tk.bytes]) (by rw [(str_join _ _ (((Dg.putV (b) 10) ++ [32]) ++ Dg.putV (a) 10) ([32]) (str_join _ _ ((Dg.putV (b) 10) ++ [32]) (Dg.putV (a) 10) (str_join _ _ (Dg.putV (b) 10) ([32]) eY rfl) eX) rfl)]; simp) w1 A1)
  have P3 := Lib.hid (fun w1 A1 => tells1 w (⟨#[58, 32, 122, 32, 49, 32, 48, 32, 47, 32, 59, 32, 58, 32, 103, 32, 91, 39, 93, 32, 122, 32, 99, 97, 116, 99, 104, 32, 59, 32, 103, 32, 46]⟩) (C ++ ⟨#[32]⟩) _ _ (catches5) rfl (by rw [(str_join _ _ (Dg.putV (-10) 10) ([32]) eC rfl)]; simp) w1 A1)
  rw [← eX] at HX
  rw [← eY] at HY
  rw [← eC] at HC
  have HA := Lib.hid A
  clear A eX eY eC ha hb
  go_enter Tryz.func11, Tryz.ntmps11
  go_wp2_with fail
  refine (HAl.out _ HA.out).mono ?_
  rintro e w1 ⟨rfl, k⟩
  have A1 := Lib.hid (HA.out.next k)
  have K1 := Lib.hid k
  clear k
  go_wp2_with fail
  refine (HY.out _).mono ?_
  rintro e w2 ⟨rfl, rfl⟩
  go_wp2_with fail
  refine (HX.out _).mono ?_
  rintro e w2 ⟨rfl, rfl⟩
  go_wp2_with fail
  refine (HY.out _).mono ?_
  rintro e w2 ⟨rfl, rfl⟩
  go_wp2_with fail
  refine (P1.out _ A1.out).mono ?_
  rintro e w2 ⟨rfl, k⟩
  have A2 := Lib.hid (A1.out.next k)
  have K2 := Lib.hid (K1.out.trans (k.mono K1.out.size))
  clear k K1 A1
  go_wp2_with fail
  refine (HC.out _).mono ?_
  rintro e w3 ⟨rfl, rfl⟩
  go_wp2_with fail
  refine (HY.out _).mono ?_
  rintro e w3 ⟨rfl, rfl⟩
  go_wp2_with fail
  refine (HX.out _).mono ?_
  rintro e w3 ⟨rfl, rfl⟩
  go_wp2_with fail
  refine (HD.out _).mono ?_
  rintro e wd ⟨rfl, rfl⟩
  go_wp2_with fail
  refine (P2.out _ A2.out).mono ?_
  rintro e w3 ⟨rfl, k⟩
  have A3 := Lib.hid (A2.out.next k)
  have K3 := Lib.hid (K2.out.trans (k.mono K2.out.size))
  clear k K2 A2
  go_wp2_with fail
  refine (P3.out _ A3.out).mono ?_
  rintro e w4 ⟨rfl, k⟩
  have A4 := Lib.hid (A3.out.next k)
  have K4 := Lib.hid (K3.out.trans (k.mono K3.out.size))
  clear k K3 A3
  go_wp2_with fail
  go_ret
  exact ⟨rfl, K4.out⟩
set_option maxHeartbeats 8000000 in
set_option maxRecDepth 100000 in
theorem catches_walk (a b : Int) (ha : Mc.In a) (hb : Mc.In b)  (w : World) (A : Ahead w w) :
    Calls Tryz.prog 11 #[.int .i64 a, .int .i64 b] w fun e w' => e = .returned (.bool true) ∧ Below w.heap.size w w' := by
  cases h0 : decide (b = 0)
  · exact catches_w1 a b ha hb h0 w A
  · exact catches_w0 a b ha hb h0 w A
end Go.Proofs.YtompdfpjmdnhoaaGreatDoor.Ou
