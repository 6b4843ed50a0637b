/-
  Lemmas on the way, for every input that they name: OvL, OqO.
-/
import Derived.Test.YtompdfpjmdnhoaaGreatDoorQ36
import Derived.Test.YtompdfpjmdnhoaaGreatDoorQ37
set_option linter.unusedVariables false
set_option linter.unusedSimpArgs false
set_option linter.deprecated false
namespace Go.Proofs.YtompdfpjmdnhoaaGreatDoor.Ou
open Go.RowKit Go.Proofs.YtompdfpjmdnhoaaGreatDoor.Mc
def onL : List (List UInt8) := [[59], [91, 39, 93], [101, 120, 105, 116], [105], [106], [117, 110, 108, 111, 111, 112], [114, 101, 99, 117, 114, 115, 101], [108, 105, 116, 101, 114, 97, 108], [105, 102], [101, 108, 115, 101], [116, 104, 101, 110], [98, 101, 103, 105, 110], [117, 110, 116, 105, 108], [97, 103, 97, 105, 110], [119, 104, 105, 108, 101], [114, 101, 112, 101, 97, 116], [100, 111], [108, 111, 111, 112], [43, 108, 111, 111, 112]]
def offL : List (List UInt8) := [[58], [99, 111, 110, 115, 116, 97, 110, 116], [118, 97, 114, 105, 97, 98, 108, 101], [99, 114, 101, 97, 116, 101], [44], [97, 108, 108, 111, 116], [104, 101, 114, 101], [39], [105, 109, 109, 101, 100, 105, 97, 116, 101], [102, 111, 114, 103, 101, 116]]
def only1T (k : Nat) : List (List Tk) := [[.c 49, .c 32] ++ bs (onL.getD k [])]
def only1O (k : Nat) : List (List UInt8) := []
set_option maxRecDepth 100000 in
theorem only1_0 : runB (only1T 0) = some (-14, only1O 0, []) := by kernel_rfl
set_option maxRecDepth 100000 in
theorem only1_1 : runB (only1T 1) = some (-14, only1O 1, []) := by kernel_rfl
set_option maxRecDepth 100000 in
theorem only1_2 : runB (only1T 2) = some (-14, only1O 2, []) := by kernel_rfl
set_option maxRecDepth 100000 in
theorem only1_3 : runB (only1T 3) = some (-14, only1O 3, []) := by kernel_rfl
set_option maxRecDepth 100000 in
theorem only1_4 : runB (only1T 4) = some (-14, only1O 4, []) := by kernel_rfl
set_option maxRecDepth 100000 in
theorem only1_5 : runB (only1T 5) = some (-14, only1O 5, []) := by kernel_rfl
set_option maxRecDepth 100000 in
theorem only1_6 : runB (only1T 6) = some (-14, only1O 6, []) := by kernel_rfl
set_option maxRecDepth 100000 in
theorem only1_7 : runB (only1T 7) = some (-14, only1O 7, []) := by kernel_rfl
set_option maxRecDepth 100000 in
theorem only1_8 : runB (only1T 8) = some (-14, only1O 8, []) := by kernel_rfl
set_option maxRecDepth 100000 in
theorem only1_9 : runB (only1T 9) = some (-14, only1O 9, []) := by kernel_rfl
set_option maxRecDepth 100000 in
theorem only1_10 : runB (only1T 10) = some (-14, only1O 10, []) := by kernel_rfl
set_option maxRecDepth 100000 in
theorem only1_11 : runB (only1T 11) = some (-14, only1O 11, []) := by kernel_rfl
set_option maxRecDepth 100000 in
theorem only1_12 : runB (only1T 12) = some (-14, only1O 12, []) := by kernel_rfl
set_option maxRecDepth 100000 in
theorem only1_13 : runB (only1T 13) = some (-14, only1O 13, []) := by kernel_rfl
set_option maxRecDepth 100000 in
theorem only1_14 : runB (only1T 14) = some (-14, only1O 14, []) := by kernel_rfl
set_option maxRecDepth 100000 in
theorem only1_15 : runB (only1T 15) = some (-14, only1O 15, []) := by kernel_rfl
set_option maxRecDepth 100000 in
theorem only1_16 : runB (only1T 16) = some (-14, only1O 16, []) := by kernel_rfl
set_option maxRecDepth 100000 in
theorem only1_17 : runB (only1T 17) = some (-14, only1O 17, []) := by kernel_rfl
set_option maxRecDepth 100000 in
theorem only1_18 : runB (only1T 18) = some (-14, only1O 18, []) := by kernel_rfl
theorem only1R : ∀ k, k < 19 → runB (only1T k) = some (-14, only1O k, [])
  | 0, _ => only1_0
  | 1, _ => only1_1
  | 2, _ => only1_2
  | 3, _ => only1_3
  | 4, _ => only1_4
  | 5, _ => only1_5
  | 6, _ => only1_6
  | 7, _ => only1_7
  | 8, _ => only1_8
  | 9, _ => only1_9
  | 10, _ => only1_10
  | 11, _ => only1_11
  | 12, _ => only1_12
  | 13, _ => only1_13
  | 14, _ => only1_14
  | 15, _ => only1_15
  | 16, _ => only1_16
  | 17, _ => only1_17
  | 18, _ => only1_18
  | _ + 19, h => absurd h (by omega)
theorem only1 (k : Nat) (hk : k < 19) : Plays (only1T k) (-14) (only1O k).flatten :=
  plays_K _ _ _ (only1R k hk) (fam_of (fun k => okB (only1T k)) 19 (by kernel_rfl) k hk)
def only2T (k : Nat) : List (List Tk) := [[.c 58, .c 32, .c 102, .c 32] ++ bs (offL.getD k [])]
def only2O (k : Nat) : List (List UInt8) := []
set_option maxRecDepth 100000 in
theorem only2_0 : runB (only2T 0) = some (-14, only2O 0, []) := by kernel_rfl
set_option maxRecDepth 100000 in
theorem only2_1 : runB (only2T 1) = some (-14, only2O 1, []) := by kernel_rfl
set_option maxRecDepth 100000 in
theorem only2_2 : runB (only2T 2) = some (-14, only2O 2, []) := by kernel_rfl
set_option maxRecDepth 100000 in
theorem only2_3 : runB (only2T 3) = some (-14, only2O 3, []) := by kernel_rfl
set_option maxRecDepth 100000 in
theorem only2_4 : runB (only2T 4) = some (-14, only2O 4, []) := by kernel_rfl
set_option maxRecDepth 100000 in
theorem only2_5 : runB (only2T 5) = some (-14, only2O 5, []) := by kernel_rfl
set_option maxRecDepth 100000 in
theorem only2_6 : runB (only2T 6) = some (-14, only2O 6, []) := by kernel_rfl
set_option maxRecDepth 100000 in
theorem only2_7 : runB (only2T 7) = some (-14, only2O 7, []) := by kernel_rfl
set_option maxRecDepth 100000 in
theorem only2_8 : runB (only2T 8) = some (-14, only2O 8, []) := by kernel_rfl
set_option maxRecDepth 100000 in
theorem only2_9 : runB (only2T 9) = some (-14, only2O 9, []) := by kernel_rfl
theorem only2R : ∀ k, k < 10 → runB (only2T k) = some (-14, only2O k, [])
  | 0, _ => only2_0
  | 1, _ => only2_1
  | 2, _ => only2_2
  | 3, _ => only2_3
  | 4, _ => only2_4
  | 5, _ => only2_5
  | 6, _ => only2_6
  | 7, _ => only2_7
  | 8, _ => only2_8
  | 9, _ => only2_9
  | _ + 10, h => absurd h (by omega)
theorem only2 (k : Nat) (hk : k < 10) : Plays (only2T k) (-14) (only2O k).flatten :=
  plays_K _ _ _ (only2R k hk) (fam_of (fun k => okB (only2T k)) 10 (by kernel_rfl) k hk)
theorem only3 : Plays [[.c 58, .c 32, .c 102, .c 32, .c 116, .c 104, .c 101, .c 110]] (-22) ([] : List (List UInt8)).flatten := plays_K _ _ _ (by kernel_rfl) (by kernel_rfl)
theorem only4 : Plays [[.c 58, .c 32, .c 102, .c 32, .c 105, .c 102, .c 32, .c 59]] (-22) ([] : List (List UInt8)).flatten := plays_K _ _ _ (by kernel_rfl) (by kernel_rfl)
theorem only5 : Plays [[.c 58]] (-16) ([] : List (List UInt8)).flatten := plays_K _ _ _ (by kernel_rfl) (by kernel_rfl)
end Go.Proofs.YtompdfpjmdnhoaaGreatDoor.Ou
namespace Go.Proofs.YtompdfpjmdnhoaaGreatDoor.Ou
open Go.RowKit Go.Proofs.YtompdfpjmdnhoaaGreatDoor.Rs Go.Proofs.YtompdfpjmdnhoaaGreatDoor.Src Go.Proofs.YtompdfpjmdnhoaaGreatDoor.Ft
def onA : Array Value := #[.string ⟨#[59]⟩, .string ⟨#[91, 39, 93]⟩, .string ⟨#[101, 120, 105, 116]⟩, .string ⟨#[105]⟩, .string ⟨#[106]⟩, .string ⟨#[117, 110, 108, 111, 111, 112]⟩, .string ⟨#[114, 101, 99, 117, 114, 115, 101]⟩, .string ⟨#[108, 105, 116, 101, 114, 97, 108]⟩, .string ⟨#[105, 102]⟩, .string ⟨#[101, 108, 115, 101]⟩, .string ⟨#[116, 104, 101, 110]⟩, .string ⟨#[98, 101, 103, 105, 110]⟩, .string ⟨#[117, 110, 116, 105, 108]⟩, .string ⟨#[97, 103, 97, 105, 110]⟩, .string ⟨#[119, 104, 105, 108, 101]⟩, .string ⟨#[114, 101, 112, 101, 97, 116]⟩, .string ⟨#[100, 111]⟩, .string ⟨#[108, 111, 111, 112]⟩, .string ⟨#[43, 108, 111, 111, 112]⟩]
theorem onA_at : ∀ j : Fin 19, onA[j.1]? = some (.string ⟨(onL.getD j.1 []).toArray⟩) := by
  intro j
  match j with
  | ⟨0, _⟩ => rfl
  | ⟨1, _⟩ => rfl
  | ⟨2, _⟩ => rfl
  | ⟨3, _⟩ => rfl
  | ⟨4, _⟩ => rfl
  | ⟨5, _⟩ => rfl
  | ⟨6, _⟩ => rfl
  | ⟨7, _⟩ => rfl
  | ⟨8, _⟩ => rfl
  | ⟨9, _⟩ => rfl
  | ⟨10, _⟩ => rfl
  | ⟨11, _⟩ => rfl
  | ⟨12, _⟩ => rfl
  | ⟨13, _⟩ => rfl
  | ⟨14, _⟩ => rfl
  | ⟨15, _⟩ => rfl
  | ⟨16, _⟩ => rfl
  | ⟨17, _⟩ => rfl
  | ⟨18, _⟩ => rfl
  | ⟨_ + 19, h⟩ => exact absurd h (by omega)
theorem on_ix (k : Int) (hk : Mc.In k) : ∃ j : Nat, j < 19 ∧ Int.tmod (wrap64 (Int.tmod k 19 + 19)) 19 = (j : Int) := by
  have h1 := Int.tmod_lt_of_pos k (b := 19) (by omega)
  have hk0 := hk.1
  have h2 : -19 < Int.tmod k 19 := by have := Int.lt_tmod_of_pos k (b := 19) (by omega); omega
  have h3 : wrap64 (Int.tmod k 19 + 19) = Int.tmod k 19 + 19 := by unfold wrap64; omega
  rw [h3]
  have h4 : 0 ≤ Int.tmod k 19 + 19 := by omega
  refine ⟨(Int.tmod (Int.tmod k 19 + 19) 19).toNat, ?_, ?_⟩
  · have := Int.tmod_lt_of_pos (Int.tmod k 19 + 19) (b := 19) (by omega); omega
  · have := Int.tmod_nonneg 19 h4; omega
def offA : Array Value := #[.string ⟨#[58]⟩, .string ⟨#[99, 111, 110, 115, 116, 97, 110, 116]⟩, .string ⟨#[118, 97, 114, 105, 97, 98, 108, 101]⟩, .string ⟨#[99, 114, 101, 97, 116, 101]⟩, .string ⟨#[44]⟩, .string ⟨#[97, 108, 108, 111, 116]⟩, .string ⟨#[104, 101, 114, 101]⟩, .string ⟨#[39]⟩, .string ⟨#[105, 109, 109, 101, 100, 105, 97, 116, 101]⟩, .string ⟨#[102, 111, 114, 103, 101, 116]⟩]
theorem offA_at : ∀ j : Fin 10, offA[j.1]? = some (.string ⟨(offL.getD j.1 []).toArray⟩) := by
  intro j
  match j with
  | ⟨0, _⟩ => rfl
  | ⟨1, _⟩ => rfl
  | ⟨2, _⟩ => rfl
  | ⟨3, _⟩ => rfl
  | ⟨4, _⟩ => rfl
  | ⟨5, _⟩ => rfl
  | ⟨6, _⟩ => rfl
  | ⟨7, _⟩ => rfl
  | ⟨8, _⟩ => rfl
  | ⟨9, _⟩ => rfl
  | ⟨_ + 10, h⟩ => exact absurd h (by omega)
theorem off_ix (k : Int) (hk : Mc.In k) : ∃ j : Nat, j < 10 ∧ Int.tmod (wrap64 (Int.tmod k 10 + 10)) 10 = (j : Int) := by
  have h1 := Int.tmod_lt_of_pos k (b := 10) (by omega)
  have hk0 := hk.1
  have h2 : -10 < Int.tmod k 10 := by have := Int.lt_tmod_of_pos k (b := 10) (by omega); omega
  have h3 : wrap64 (Int.tmod k 10 + 10) = Int.tmod k 10 + 10 := by unfold wrap64; omega
  rw [h3]
  have h4 : 0 ≤ Int.tmod k 10 + 10 := by omega
  refine ⟨(Int.tmod (Int.tmod k 10 + 10) 10).toNat, ?_, ?_⟩
  · have := Int.tmod_lt_of_pos (Int.tmod k 10 + 10) (b := 10) (by omega); omega
  · have := Int.tmod_nonneg 10 h4; omega
theorem bytes_c : ∀ l : List UInt8, List.flatMap Tk.bytes (List.map Tk.c l) = l
  | [] => rfl
  | c :: l => by
    rw [List.map_cons, List.flatMap_cons, bytes_c l]
    rfl
set_option maxHeartbeats 8000000 in
set_option maxRecDepth 100000 in
theorem only_walk (k : Int) (hk : Mc.In k)  (w : World) (A : Ahead w w) :
    Calls Tryz.prog 14 #[.int .i64 k] w fun e w' => e = .returned (.bool true) ∧ Below w.heap.size w w' := by
  have HAl := Lib.hid (fun w1 A1 => alive_any w w1 A1)
  obtain ⟨i, hi, ei⟩ := on_ix k hk
  obtain ⟨j, hj, ej⟩ := off_ix k hk
  have X0 := onA_at ⟨i, hi⟩
  have Y0 := offA_at ⟨j, hj⟩
  dsimp only at X0 Y0
  obtain ⟨T, eT⟩ : ∃ T : ByteArray, T = ⟨(onL.getD i []).toArray⟩ := ⟨_, rfl⟩
  obtain ⟨U, eU⟩ : ∃ U : ByteArray, U = ⟨(offL.getD j []).toArray⟩ := ⟨_, rfl⟩
  have sT : T.size ≤ 20 := by
    have h : ∀ i : Fin 19, (onL.getD i.1 []).length ≤ 20 := by decide
    rw [eT]
    exact h ⟨i, hi⟩
  have sU : U.size ≤ 20 := by
    have h : ∀ i : Fin 10, (offL.getD i.1 []).length ≤ 20 := by decide
    rw [eU]
    exact h ⟨j, hj⟩
  rw [← eT] at X0
  rw [← eU] at Y0
  have P1 := Lib.hid (fun w1 A1 => play1 w (⟨#[49, 32]⟩ ++ T) _ _ _ (only1 i hi) (by rw [str_join _ _ [49, 32] _ rfl eT]; simp [flat, Tk.bytes, bs]; exact (bytes_c _).symm) ⟨#[]⟩ rfl w1 A1)
  have P2 := Lib.hid (fun w1 A1 => play1 w (⟨#[58, 32, 102, 32]⟩ ++ U) _ _ _ (only2 j hj) (by rw [str_join _ _ [58, 32, 102, 32] _ rfl eU]; simp [flat, Tk.bytes, bs]; exact (bytes_c _).symm) ⟨#[]⟩ rfl w1 A1)
  have P3 := Lib.hid (fun w1 A1 => play1 w (⟨#[58, 32, 102, 32, 116, 104, 101, 110]⟩) _ _ _ (only3) rfl (⟨#[]⟩) rfl w1 A1)
  have P4 := Lib.hid (fun w1 A1 => play1 w (⟨#[58, 32, 102, 32, 105, 102, 32, 59]⟩) _ _ _ (only4) rfl (⟨#[]⟩) rfl w1 A1)
  have P5 := Lib.hid (fun w1 A1 => play1 w (⟨#[58]⟩) _ _ _ (only5) rfl (⟨#[]⟩) rfl w1 A1)
  have HA := Lib.hid A
  clear A hk
  go_enter Tryz.func14, Tryz.ntmps14
  go_wp2_with fail
  refine (HAl.out _ HA.out).mono ?_
  rintro e w1 ⟨rfl, k⟩
  have A1 := Lib.hid (HA.out.next k)
  have K1 := Lib.hid k
  clear k
  go_upto_region 5 with fail
  have x0 : ((w1.alloc (.cells onA 9)).alloc (.cells offA 9)).cell? ⟨w1.heap.size, i, none⟩ = some (.string T) := (((Blk.new w1 9 onA).alloc (.cells offA 9)).cell i).trans X0
  have y0 : ((w1.alloc (.cells onA 9)).alloc (.cells offA 9)).cell? ⟨w1.heap.size + 1, j, none⟩ = some (.string U) := by
    have h := ((Blk.new (w1.alloc (.cells onA 9)) 9 offA).cell j).trans Y0
    simpa using h
  have ly : w1.heap.size + 1 < ((w1.alloc (.cells onA 9)).alloc (.cells offA 9)).heap.size := by simp
  have kb : Below w1.heap.size w1 ((w1.alloc (.cells onA 9)).alloc (.cells offA 9)) := ((Below.refl w1.heap.size w1).alloc (Nat.le_refl _) _).alloc (by simp) _
  have A2 := Lib.hid (A1.out.next kb)
  have K2 := Lib.hid (K1.out.trans (kb.mono K1.out.size))
  have Ly := Lib.hid ly
  have Y := Lib.hid y0
  unfold onA offA at x0 y0 A2 K2 Ly Y
  clear kb ly y0 A1 K1 X0 Y0
  have hz : ((w1.alloc (.cells onA 9)).alloc (.cells offA 9)).heap.size = w1.heap.size + 1 + 1 := by simp
  unfold onA offA at hz
  have Hz := Lib.hid hz
  clear eT eU hz
  go_wp2_with fail
  rw [← Hz.out]
  refine (P1.out _ A2.out).mono ?_
  rintro e w3 ⟨rfl, k⟩
  have y1 := (World.cell?_of_block (k.block _ Ly.out)).trans Y.out
  have A3 := Lib.hid (A2.out.next k)
  have K3 := Lib.hid (K2.out.trans (k.mono K2.out.size))
  clear k K2 A2 x0 Y Ly
  go_wp2_with fail
  refine (P2.out _ A3.out).mono ?_
  rintro e w4 ⟨rfl, k⟩
  have A4 := Lib.hid (A3.out.next k)
  have K4 := Lib.hid (K3.out.trans (k.mono K3.out.size))
  clear k K3 A3 y1
  go_wp2_with fail
  refine (P3.out _ A4.out).mono ?_
  rintro e w5 ⟨rfl, k⟩
  have A5 := Lib.hid (A4.out.next k)
  have K5 := Lib.hid (K4.out.trans (k.mono K4.out.size))
  clear k K4 A4
  go_wp2_with fail
  refine (P4.out _ A5.out).mono ?_
  rintro e w6 ⟨rfl, k⟩
  have A6 := Lib.hid (A5.out.next k)
  have K6 := Lib.hid (K5.out.trans (k.mono K5.out.size))
  clear k K5 A5
  go_wp2_with fail
  refine (P5.out _ A6.out).mono ?_
  rintro e w7 ⟨rfl, k⟩
  have K7 := Lib.hid (K6.out.trans (k.mono K6.out.size))
  clear k K6 A6
  go_wp2_with fail
  go_ret
  exact ⟨rfl, K7.out⟩
end Go.Proofs.YtompdfpjmdnhoaaGreatDoor.Ou
