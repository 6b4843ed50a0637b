/-
  Lemmas on the way, for every input that they name: OvI, OqI.
-/
import Derived.Test.YtompdfpjmdnhoaaGreatDoorQ36
import Derived.Test.YtompdfpjmdnhoaaGreatDoorQ37
set_option linter.unusedVariables false
set_option linter.unusedSimpArgs false
set_option linter.deprecated false
namespace Go.Proofs.YtompdfpjmdnhoaaGreatDoor.Ou
open Go.RowKit Go.Proofs.YtompdfpjmdnhoaaGreatDoor.Mc
theorem ifs1 (a : Int) (ha : In a) (h0 : decide (a = 0) = false) : Plays [[.c 58, .c 32, .c 102, .c 32, .c 105, .c 102, .c 32, .c 46, .c 34, .c 32, .c 121, .c 101, .c 115, .c 34, .c 32, .c 101, .c 108, .c 115, .c 101, .c 32, .c 46, .c 34, .c 32, .c 110, .c 111, .c 34, .c 32, .c 116, .c 104, .c 101, .c 110, .c 32, .c 59, .c 32, .n (a) 10, .c 32, .c 102]] 0 ([[121], [101], [115]] : List (List UInt8)).flatten :=
  plays_of [([.c 58, .c 32, .c 102, .c 32, .c 105, .c 102, .c 32, .c 46, .c 34, .c 32, .c 121, .c 101, .c 115, .c 34, .c 32, .c 101, .c 108, .c 115, .c 101, .c 32, .c 46, .c 34, .c 32, .c 110, .c 111, .c 34, .c 32, .c 116, .c 104, .c 101, .c 110, .c 32, .c 59, .c 32, .n (a) 10, .c 32, .c 102], [some false])] (0) [[121], [101], [115]] [(decide (a = 0), false)] (by kernel_rfl) (by kernel_rfl) (by kernel_rfl) (by kernel_rfl) (show allIn [a] from ⟨ha, trivial⟩) (by intro p hp; simp only [List.mem_cons, List.not_mem_nil, or_false] at hp; subst hp; assumption)
theorem ifs2 (a : Int) (ha : In a) (h0 : decide (a = 0) = true) : Plays [[.c 58, .c 32, .c 102, .c 32, .c 105, .c 102, .c 32, .c 46, .c 34, .c 32, .c 121, .c 101, .c 115, .c 34, .c 32, .c 101, .c 108, .c 115, .c 101, .c 32, .c 46, .c 34, .c 32, .c 110, .c 111, .c 34, .c 32, .c 116, .c 104, .c 101, .c 110, .c 32, .c 59, .c 32, .n (a) 10, .c 32, .c 102]] 0 ([[110], [111]] : List (List UInt8)).flatten :=
  plays_of [([.c 58, .c 32, .c 102, .c 32, .c 105, .c 102, .c 32, .c 46, .c 34, .c 32, .c 121, .c 101, .c 115, .c 34, .c 32, .c 101, .c 108, .c 115, .c 101, .c 32, .c 46, .c 34, .c 32, .c 110, .c 111, .c 34, .c 32, .c 116, .c 104, .c 101, .c 110, .c 32, .c 59, .c 32, .n (a) 10, .c 32, .c 102], [some true])] (0) [[110], [111]] [(decide (a = 0), true)] (by kernel_rfl) (by kernel_rfl) (by kernel_rfl) (by kernel_rfl) (show allIn [a] from ⟨ha, trivial⟩) (by intro p hp; simp only [List.mem_cons, List.not_mem_nil, or_false] at hp; subst hp; assumption)
theorem ifs3 (a b : Int) (ha : In a) (hb : In b) (h0 : decide (a < 0) = true) (h1 : decide (a < b) = true) : Plays [[.c 58, .c 32, .c 103, .c 32, .c 111, .c 118, .c 101, .c 114, .c 32, .c 111, .c 118, .c 101, .c 114, .c 32, .c 60, .c 32, .c 105, .c 102, .c 32, .c 100, .c 114, .c 111, .c 112, .c 32, .c 48, .c 60, .c 32, .c 105, .c 102, .c 32, .c 46, .c 34, .c 32, .c 98, .c 101, .c 108, .c 111, .c 119, .c 34, .c 32, .c 101, .c 108, .c 115, .c 101, .c 32, .c 46, .c 34, .c 32, .c 108, .c 101, .c 115, .c 115, .c 34, .c 32, .c 116, .c 104, .c 101, .c 110, .c 32, .c 101, .c 108, .c 115, .c 101, .c 32, .c 61, .c 32, .c 105, .c 102, .c 32, .c 46, .c 34, .c 32, .c 115, .c 97, .c 109, .c 101, .c 34, .c 32, .c 101, .c 108, .c 115, .c 101, .c 32, .c 46, .c 34, .c 32, .c 120, .c 34, .c 32, .c 116, .c 104, .c 101, .c 110, .c 32, .c 116, .c 104, .c 101, .c 110, .c 32, .c 59, .c 32, .n (a) 10, .c 32, .n (b) 10, .c 32, .c 103]] 0 ([[98], [101], [108], [111], [119]] : List (List UInt8)).flatten :=
  plays_of [([.c 58, .c 32, .c 103, .c 32, .c 111, .c 118, .c 101, .c 114, .c 32, .c 111, .c 118, .c 101, .c 114, .c 32, .c 60, .c 32, .c 105, .c 102, .c 32, .c 100, .c 114, .c 111, .c 112, .c 32, .c 48, .c 60, .c 32, .c 105, .c 102, .c 32, .c 46, .c 34, .c 32, .c 98, .c 101, .c 108, .c 111, .c 119, .c 34, .c 32, .c 101, .c 108, .c 115, .c 101, .c 32, .c 46, .c 34, .c 32, .c 108, .c 101, .c 115, .c 115, .c 34, .c 32, .c 116, .c 104, .c 101, .c 110, .c 32, .c 101, .c 108, .c 115, .c 101, .c 32, .c 61, .c 32, .c 105, .c 102, .c 32, .c 46, .c 34, .c 32, .c 115, .c 97, .c 109, .c 101, .c 34, .c 32, .c 101, .c 108, .c 115, .c 101, .c 32, .c 46, .c 34, .c 32, .c 120, .c 34, .c 32, .c 116, .c 104, .c 101, .c 110, .c 32, .c 116, .c 104, .c 101, .c 110, .c 32, .c 59, .c 32, .n (a) 10, .c 32, .n (b) 10, .c 32, .c 103], [some true, none, some true])] (0) [[98], [101], [108], [111], [119]] [(decide (a < 0), true), (decide (a < b), true)] (by kernel_rfl) (by kernel_rfl) (by kernel_rfl) (by kernel_rfl) (show allIn [a, b] from ⟨ha, hb, trivial⟩) (by intro p hp; simp only [List.mem_cons, List.not_mem_nil, or_false] at hp; rcases hp with rfl | rfl <;> assumption)
theorem ifs4 (a b : Int) (ha : In a) (hb : In b) (h0 : decide (a < 0) = false) (h1 : decide (a < b) = true) : Plays [[.c 58, .c 32, .c 103, .c 32, .c 111, .c 118, .c 101, .c 114, .c 32, .c 111, .c 118, .c 101, .c 114, .c 32, .c 60, .c 32, .c 105, .c 102, .c 32, .c 100, .c 114, .c 111, .c 112, .c 32, .c 48, .c 60, .c 32, .c 105, .c 102, .c 32, .c 46, .c 34, .c 32, .c 98, .c 101, .c 108, .c 111, .c 119, .c 34, .c 32, .c 101, .c 108, .c 115, .c 101, .c 32, .c 46, .c 34, .c 32, .c 108, .c 101, .c 115, .c 115, .c 34, .c 32, .c 116, .c 104, .c 101, .c 110, .c 32, .c 101, .c 108, .c 115, .c 101, .c 32, .c 61, .c 32, .c 105, .c 102, .c 32, .c 46, .c 34, .c 32, .c 115, .c 97, .c 109, .c 101, .c 34, .c 32, .c 101, .c 108, .c 115, .c 101, .c 32, .c 46, .c 34, .c 32, .c 120, .c 34, .c 32, .c 116, .c 104, .c 101, .c 110, .c 32, .c 116, .c 104, .c 101, .c 110, .c 32, .c 59, .c 32, .n (a) 10, .c 32, .n (b) 10, .c 32, .c 103]] 0 ([[108], [101], [115], [115]] : List (List UInt8)).flatten :=
  plays_of [([.c 58, .c 32, .c 103, .c 32, .c 111, .c 118, .c 101, .c 114, .c 32, .c 111, .c 118, .c 101, .c 114, .c 32, .c 60, .c 32, .c 105, .c 102, .c 32, .c 100, .c 114, .c 111, .c 112, .c 32, .c 48, .c 60, .c 32, .c 105, .c 102, .c 32, .c 46, .c 34, .c 32, .c 98, .c 101, .c 108, .c 111, .c 119, .c 34, .c 32, .c 101, .c 108, .c 115, .c 101, .c 32, .c 46, .c 34, .c 32, .c 108, .c 101, .c 115, .c 115, .c 34, .c 32, .c 116, .c 104, .c 101, .c 110, .c 32, .c 101, .c 108, .c 115, .c 101, .c 32, .c 61, .c 32, .c 105, .c 102, .c 32, .c 46, .c 34, .c 32, .c 115, .c 97, .c 109, .c 101, .c 34, .c 32, .c 101, .c 108, .c 115, .c 101, .c 32, .c 46, .c 34, .c 32, .c 120, .c 34, .c 32, .c 116, .c 104, .c 101, .c 110, .c 32, .c 116, .c 104, .c 101, .c 110, .c 32, .c 59, .c 32, .n (a) 10, .c 32, .n (b) 10, .c 32, .c 103], [some true, none, some false])] (0) [[108], [101], [115], [115]] [(decide (a < 0), false), (decide (a < b), true)] (by kernel_rfl) (by kernel_rfl) (by kernel_rfl) (by kernel_rfl) (show allIn [a, b] from ⟨ha, hb, trivial⟩) (by intro p hp; simp only [List.mem_cons, List.not_mem_nil, or_false] at hp; rcases hp with rfl | rfl <;> assumption)
theorem ifs5 (a b : Int) (ha : In a) (hb : In b) (h0 : decide (a = b) = true) (h1 : decide (a < b) = false) : Plays [[.c 58, .c 32, .c 103, .c 32, .c 111, .c 118, .c 101, .c 114, .c 32, .c 111, .c 118, .c 101, .c 114, .c 32, .c 60, .c 32, .c 105, .c 102, .c 32, .c 100, .c 114, .c 111, .c 112, .c 32, .c 48, .c 60, .c 32, .c 105, .c 102, .c 32, .c 46, .c 34, .c 32, .c 98, .c 101, .c 108, .c 111, .c 119, .c 34, .c 32, .c 101, .c 108, .c 115, .c 101, .c 32, .c 46, .c 34, .c 32, .c 108, .c 101, .c 115, .c 115, .c 34, .c 32, .c 116, .c 104, .c 101, .c 110, .c 32, .c 101, .c 108, .c 115, .c 101, .c 32, .c 61, .c 32, .c 105, .c 102, .c 32, .c 46, .c 34, .c 32, .c 115, .c 97, .c 109, .c 101, .c 34, .c 32, .c 101, .c 108, .c 115, .c 101, .c 32, .c 46, .c 34, .c 32, .c 120, .c 34, .c 32, .c 116, .c 104, .c 101, .c 110, .c 32, .c 116, .c 104, .c 101, .c 110, .c 32, .c 59, .c 32, .n (a) 10, .c 32, .n (b) 10, .c 32, .c 103]] 0 ([[115], [97], [109], [101]] : List (List UInt8)).flatten :=
  plays_of [([.c 58, .c 32, .c 103, .c 32, .c 111, .c 118, .c 101, .c 114, .c 32, .c 111, .c 118, .c 101, .c 114, .c 32, .c 60, .c 32, .c 105, .c 102, .c 32, .c 100, .c 114, .c 111, .c 112, .c 32, .c 48, .c 60, .c 32, .c 105, .c 102, .c 32, .c 46, .c 34, .c 32, .c 98, .c 101, .c 108, .c 111, .c 119, .c 34, .c 32, .c 101, .c 108, .c 115, .c 101, .c 32, .c 46, .c 34, .c 32, .c 108, .c 101, .c 115, .c 115, .c 34, .c 32, .c 116, .c 104, .c 101, .c 110, .c 32, .c 101, .c 108, .c 115, .c 101, .c 32, .c 61, .c 32, .c 105, .c 102, .c 32, .c 46, .c 34, .c 32, .c 115, .c 97, .c 109, .c 101, .c 34, .c 32, .c 101, .c 108, .c 115, .c 101, .c 32, .c 46, .c 34, .c 32, .c 120, .c 34, .c 32, .c 116, .c 104, .c 101, .c 110, .c 32, .c 116, .c 104, .c 101, .c 110, .c 32, .c 59, .c 32, .n (a) 10, .c 32, .n (b) 10, .c 32, .c 103], [some false, none, some true])] (0) [[115], [97], [109], [101]] [(decide (a = b), true), (decide (a < b), false)] (by kernel_rfl) (by kernel_rfl) (by kernel_rfl) (by kernel_rfl) (show allIn [a, b] from ⟨ha, hb, trivial⟩) (by intro p hp; simp only [List.mem_cons, List.not_mem_nil, or_false] at hp; rcases hp with rfl | rfl <;> assumption)
theorem ifs6 (a b : Int) (ha : In a) (hb : In b) (h0 : decide (a = b) = false) (h1 : decide (a < b) = false) : Plays [[.c 58, .c 32, .c 103, .c 32, .c 111, .c 118, .c 101, .c 114, .c 32, .c 111, .c 118, .c 101, .c 114, .c 32, .c 60, .c 32, .c 105, .c 102, .c 32, .c 100, .c 114, .c 111, .c 112, .c 32, .c 48, .c 60, .c 32, .c 105, .c 102, .c 32, .c 46, .c 34, .c 32, .c 98, .c 101, .c 108, .c 111, .c 119, .c 34, .c 32, .c 101, .c 108, .c 115, .c 101, .c 32, .c 46, .c 34, .c 32, .c 108, .c 101, .c 115, .c 115, .c 34, .c 32, .c 116, .c 104, .c 101, .c 110, .c 32, .c 101, .c 108, .c 115, .c 101, .c 32, .c 61, .c 32, .c 105, .c 102, .c 32, .c 46, .c 34, .c 32, .c 115, .c 97, .c 109, .c 101, .c 34, .c 32, .c 101, .c 108, .c 115, .c 101, .c 32, .c 46, .c 34, .c 32, .c 120, .c 34, .c 32, .c 116, .c 104, .c 101, .c 110, .c 32, .c 116, .c 104, .c 101, .c 110, .c 32, .c 59, .c 32, .n (a) 10, .c 32, .n (b) 10, .c 32, .c 103]] 0 ([[120]] : List (List UInt8)).flatten :=
  plays_of [([.c 58, .c 32, .c 103, .c 32, .c 111, .c 118, .c 101, .c 114, .c 32, .c 111, .c 118, .c 101, .c 114, .c 32, .c 60, .c 32, .c 105, .c 102, .c 32, .c 100, .c 114, .c 111, .c 112, .c 32, .c 48, .c 60, .c 32, .c 105, .c 102, .c 32, .c 46, .c 34, .c 32, .c 98, .c 101, .c 108, .c 111, .c 119, .c 34, .c 32, .c 101, .c 108, .c 115, .c 101, .c 32, .c 46, .c 34, .c 32, .c 108, .c 101, .c 115, .c 115, .c 34, .c 32, .c 116, .c 104, .c 101, .c 110, .c 32, .c 101, .c 108, .c 115, .c 101, .c 32, .c 61, .c 32, .c 105, .c 102, .c 32, .c 46, .c 34, .c 32, .c 115, .c 97, .c 109, .c 101, .c 34, .c 32, .c 101, .c 108, .c 115, .c 101, .c 32, .c 46, .c 34, .c 32, .c 120, .c 34, .c 32, .c 116, .c 104, .c 101, .c 110, .c 32, .c 116, .c 104, .c 101, .c 110, .c 32, .c 59, .c 32, .n (a) 10, .c 32, .n (b) 10, .c 32, .c 103], [some false, none, some false])] (0) [[120]] [(decide (a = b), false), (decide (a < b), false)] (by kernel_rfl) (by kernel_rfl) (by kernel_rfl) (by kernel_rfl) (show allIn [a, b] from ⟨ha, hb, trivial⟩) (by intro p hp; simp only [List.mem_cons, List.not_mem_nil, or_false] at hp; rcases hp with rfl | rfl <;> assumption)
end Go.Proofs.YtompdfpjmdnhoaaGreatDoor.Ou
namespace Go.Proofs.YtompdfpjmdnhoaaGreatDoor.Ou
open Go.RowKit Go.Proofs.YtompdfpjmdnhoaaGreatDoor.Rs Go.Proofs.YtompdfpjmdnhoaaGreatDoor.Src Go.Proofs.YtompdfpjmdnhoaaGreatDoor.Ft
def TellsP (w0 : World) (tx want : ByteArray) : Prop := ∀ w, Ahead w0 w → Calls Tryz.prog 16 #[.string want, .slice (some ⟨w.heap.size, 0, none⟩) 1 1] (w.alloc (.cells #[.string tx] 9)) fun e w' => e = .returned (.bool true) ∧ Below w.heap.size w w'
theorem ifs1_no (a : Int) (ha : Mc.In a) (h0 : decide (a = 0) = true) (X : ByteArray) (eX : X = ⟨(Dg.putV a 10).toArray⟩) (w0 : World) : TellsP w0 (⟨#[58, 32, 102, 32, 105, 102, 32, 46, 34, 32, 121, 101, 115, 34, 32, 101, 108, 115, 101, 32, 46, 34, 32, 110, 111, 34, 32, 116, 104, 101, 110, 32, 59, 32]⟩ ++ X ++ ⟨#[32, 102]⟩) ⟨#[110, 111]⟩ :=
  fun w1 A1 => tells1 w0 _ _ _ _ (ifs2 a ha h0) (by rw [(str_join _ _ (([58, 32, 102, 32, 105, 102, 32, 46, 34, 32, 121, 101, 115, 34, 32, 101, 108, 115, 101, 32, 46, 34, 32, 110, 111, 34, 32, 116, 104, 101, 110, 32, 59, 32]) ++ Dg.putV (a) 10) ([32, 102]) (str_join _ _ ([58, 32, 102, 32, 105, 102, 32, 46, 34, 32, 121, 101, 115, 34, 32, 101, 108, 115, 101, 32, 46, 34, 32, 110, 111, 34, 32, 116, 104, 101, 110, 32, 59, 32]) (Dg.putV (a) 10) rfl eX) rfl)]; simp [flat, Tk.bytes]) rfl w1 A1
theorem ifs1_yes (a : Int) (ha : Mc.In a) (h0 : decide (a = 0) = false) (X : ByteArray) (eX : X = ⟨(Dg.putV a 10).toArray⟩) (w0 : World) : TellsP w0 (⟨#[58, 32, 102, 32, 105, 102, 32, 46, 34, 32, 121, 101, 115, 34, 32, 101, 108, 115, 101, 32, 46, 34, 32, 110, 111, 34, 32, 116, 104, 101, 110, 32, 59, 32]⟩ ++ X ++ ⟨#[32, 102]⟩) ⟨#[121, 101, 115]⟩ :=
  fun w1 A1 => tells1 w0 _ _ _ _ (ifs1 a ha h0) (by rw [(str_join _ _ (([58, 32, 102, 32, 105, 102, 32, 46, 34, 32, 121, 101, 115, 34, 32, 101, 108, 115, 101, 32, 46, 34, 32, 110, 111, 34, 32, 116, 104, 101, 110, 32, 59, 32]) ++ Dg.putV (a) 10) ([32, 102]) (str_join _ _ ([58, 32, 102, 32, 105, 102, 32, 46, 34, 32, 121, 101, 115, 34, 32, 101, 108, 115, 101, 32, 46, 34, 32, 110, 111, 34, 32, 116, 104, 101, 110, 32, 59, 32]) (Dg.putV (a) 10) rfl eX) rfl)]; simp [flat, Tk.bytes]) rfl w1 A1
theorem ifs2_below (a b : Int) (ha : Mc.In a) (hb : Mc.In b) (h1 : decide (a < b) = true) (h2 : decide (a < 0) = true) (X : ByteArray) (eX : X = ⟨(Dg.putV a 10).toArray⟩) (Y : ByteArray) (eY : Y = ⟨(Dg.putV b 10).toArray⟩) (w0 : World) : TellsP w0 (⟨#[58, 32, 103, 32, 111, 118, 101, 114, 32, 111, 118, 101, 114, 32, 60, 32, 105, 102, 32, 100, 114, 111, 112, 32, 48, 60, 32, 105, 102, 32, 46, 34, 32, 98, 101, 108, 111, 119, 34, 32, 101, 108, 115, 101, 32, 46, 34, 32, 108, 101, 115, 115, 34, 32, 116, 104, 101, 110, 32, 101, 108, 115, 101, 32, 61, 32, 105, 102, 32, 46, 34, 32, 115, 97, 109, 101, 34, 32, 101, 108, 115, 101, 32, 46, 34, 32, 120, 34, 32, 116, 104, 101, 110, 32, 116, 104, 101, 110, 32, 59, 32]⟩ ++ X ++ ⟨#[32]⟩ ++ Y ++ ⟨#[32, 103]⟩) ⟨#[98, 101, 108, 111, 119]⟩ :=
  fun w1 A1 => tells1 w0 _ _ _ _ (ifs3 a b ha hb h2 h1) (by rw [(str_join _ _ (((([58, 32, 103, 32, 111, 118, 101, 114, 32, 111, 118, 101, 114, 32, 60, 32, 105, 102, 32, 100, 114, 111, 112, 32, 48, 60, 32, 105, 102, 32, 46, 34, 32, 98, 101, 108, 111, 119, 34, 32, 101, 108, 115, 101, 32, 46, 34, 32, 108, 101, 115, 115, 34, 32, 116, 104, 101, 110, 32, 101, 108, 115, 101, 32, 61, 32, 105, 102, 32, 46, 34, 32, 115, 97, 109, 101, 34, 32, 101, 108, 115, 101, 32, 46, 34, 32, 120, 34, 32, 116, 104, 101, 110, 32, 116, 104, 101, 110, 32, 59, 32]) ++ Dg.putV (a) 10) ++ [32]) ++ Dg.putV (b) 10) ([32, 103]) (str_join _ _ ((([58, 32, 103, 32, 111, 118, 101, 114, 32, 111, 118, 101, 114, 32, 60, 32, 105, 102, 32, 100, 114, 111, 112, 32, 48, 60, 32, 105, 102, 32, 46, 34, 32, 98, 101, 108, 111, 119, 34, 32, 101, 108, 115, 101, 32, 46, 34, 32, 108, 101, 115, 115, 34, 32, 116, 104, 101, 110, 32, 101, 108, 115, 101, 32, 61, 32, 105, 102, 32, 46, 34, 32, 115, 97, 109, 101, 34, 32, 101, 108, 115, 101, 32, 46, 34, 32, 120, 34, 32, 116, 104, 101, 110, 32, 116, 104, 101, 110, 32, 59, 32]) ++ Dg.putV (a) 10) ++ [32]) (Dg.putV (b) 10) (str_join _ _ (([58, 32, 103, 32, 111, 118, 101, 114, 32, 111, 118, 101, 114, 32, 60, 32, 105, 102, 32, 100, 114, 111, 112, 32, 48, 60, 32, 105, 102, 32, 46, 34, 32, 98, 101, 108, 111, 119, 34, 32, 101, 108, 115, 101, 32, 46, 34, 32, 108, 101, 115, 115, 34, 32, 116, 104, 101, 110, 32, 101, 108, 115, 101, 32, 61, 32, 105, 102, 32, 46, 34, 32, 115, 97, 109, 101, 34, 32, 101, 108, 115, 101, 32, 46, 34, 32, 120, 34, 32, 116, 104, 101, 110, 32, 116, 104, 101, 110, 32, 59, 32]) ++ Dg.putV (a) 10) ([32]) (str_join _ _ ([58, 32, 103, 32, 111, 118, 101, 114, 32, 111, 118, 101, 114, 32, 60, 32, 105, 102, 32, 100, 114, 111, 112, 32, 48, 60, 32, 105, 102, 32, 46, 34, 32, 98, 101, 108, 111, 119, 34, 32, 101, 108, 115, 101, 32, 46, 34, 32, 108, 101, 115, 115, 34, 32, 116, 104, 101, 110, 32, 101, 108, 115, 101, 32, 61, 32, 105, 102, 32, 46, 34, 32, 115, 97, 109, 101, 34, 32, 101, 108, 115, 101, 32, 46, 34, 32, 120, 34, 32, 116, 104, 101, 110, 32, 116, 104, 101, 110, 32, 59, 32]) (Dg.putV (a) 10) rfl eX) rfl) eY) rfl)]; simp [flat, Tk.bytes]) rfl w1 A1
theorem ifs2_less (a b : Int) (ha : Mc.In a) (hb : Mc.In b) (h1 : decide (a < b) = true) (h2 : decide (a < 0) = false) (X : ByteArray) (eX : X = ⟨(Dg.putV a 10).toArray⟩) (Y : ByteArray) (eY : Y = ⟨(Dg.putV b 10).toArray⟩) (w0 : World) : TellsP w0 (⟨#[58, 32, 103, 32, 111, 118, 101, 114, 32, 111, 118, 101, 114, 32, 60, 32, 105, 102, 32, 100, 114, 111, 112, 32, 48, 60, 32, 105, 102, 32, 46, 34, 32, 98, 101, 108, 111, 119, 34, 32, 101, 108, 115, 101, 32, 46, 34, 32, 108, 101, 115, 115, 34, 32, 116, 104, 101, 110, 32, 101, 108, 115, 101, 32, 61, 32, 105, 102, 32, 46, 34, 32, 115, 97, 109, 101, 34, 32, 101, 108, 115, 101, 32, 46, 34, 32, 120, 34, 32, 116, 104, 101, 110, 32, 116, 104, 101, 110, 32, 59, 32]⟩ ++ X ++ ⟨#[32]⟩ ++ Y ++ ⟨#[32, 103]⟩) ⟨#[108, 101, 115, 115]⟩ :=
  fun w1 A1 => tells1 w0 _ _ _ _ (ifs4 a b ha hb h2 h1) (by rw [(str_join _ _ (((([58, 32, 103, 32, 111, 118, 101, 114, 32, 111, 118, 101, 114, 32, 60, 32, 105, 102, 32, 100, 114, 111, 112, 32, 48, 60, 32, 105, 102, 32, 46, 34, 32, 98, 101, 108, 111, 119, 34, 32, 101, 108, 115, 101, 32, 46, 34, 32, 108, 101, 115, 115, 34, 32, 116, 104, 101, 110, 32, 101, 108, 115, 101, 32, 61, 32, 105, 102, 32, 46, 34, 32, 115, 97, 109, 101, 34, 32, 101, 108, 115, 101, 32, 46, 34, 32, 120, 34, 32, 116, 104, 101, 110, 32, 116, 104, 101, 110, 32, 59, 32]) ++ Dg.putV (a) 10) ++ [32]) ++ Dg.putV (b) 10) ([32, 103]) (str_join _ _ ((([58, 32, 103, 32, 111, 118, 101, 114, 32, 111, 118, 101, 114, 32, 60, 32, 105, 102, 32, 100, 114, 111, 112, 32, 48, 60, 32, 105, 102, 32, 46, 34, 32, 98, 101, 108, 111, 119, 34, 32, 101, 108, 115, 101, 32, 46, 34, 32, 108, 101, 115, 115, 34, 32, 116, 104, 101, 110, 32, 101, 108, 115, 101, 32, 61, 32, 105, 102, 32, 46, 34, 32, 115, 97, 109, 101, 34, 32, 101, 108, 115, 101, 32, 46, 34, 32, 120, 34, 32, 116, 104, 101, 110, 32, 116, 104, 101, 110, 32, 59, 32]) ++ Dg.putV (a) 10) ++ [32]) (Dg.putV (b) 10) (str_join _ _ (([58, 32, 103, 32, 111, 118, 101, 114, 32, 111, 118, 101, 114, 32, 60, 32, 105, 102, 32, 100, 114, 111, 112, 32, 48, 60, 32, 105, 102, 32, 46, 34, 32, 98, 101, 108, 111, 119, 34, 32, 101, 108, 115, 101, 32, 46, 34, 32, 108, 101, 115, 115, 34, 32, 116, 104, 101, 110, 32, 101, 108, 115, 101, 32, 61, 32, 105, 102, 32, 46, 34, 32, 115, 97, 109, 101, 34, 32, 101, 108, 115, 101, 32, 46, 34, 32, 120, 34, 32, 116, 104, 101, 110, 32, 116, 104, 101, 110, 32, 59, 32]) ++ Dg.putV (a) 10) ([32]) (str_join _ _ ([58, 32, 103, 32, 111, 118, 101, 114, 32, 111, 118, 101, 114, 32, 60, 32, 105, 102, 32, 100, 114, 111, 112, 32, 48, 60, 32, 105, 102, 32, 46, 34, 32, 98, 101, 108, 111, 119, 34, 32, 101, 108, 115, 101, 32, 46, 34, 32, 108, 101, 115, 115, 34, 32, 116, 104, 101, 110, 32, 101, 108, 115, 101, 32, 61, 32, 105, 102, 32, 46, 34, 32, 115, 97, 109, 101, 34, 32, 101, 108, 115, 101, 32, 46, 34, 32, 120, 34, 32, 116, 104, 101, 110, 32, 116, 104, 101, 110, 32, 59, 32]) (Dg.putV (a) 10) rfl eX) rfl) eY) rfl)]; simp [flat, Tk.bytes]) rfl w1 A1
theorem ifs2_same (a b : Int) (ha : Mc.In a) (hb : Mc.In b) (h1 : decide (a < b) = false) (h2 : decide (a = b) = true) (X : ByteArray) (eX : X = ⟨(Dg.putV a 10).toArray⟩) (Y : ByteArray) (eY : Y = ⟨(Dg.putV b 10).toArray⟩) (w0 : World) : TellsP w0 (⟨#[58, 32, 103, 32, 111, 118, 101, 114, 32, 111, 118, 101, 114, 32, 60, 32, 105, 102, 32, 100, 114, 111, 112, 32, 48, 60, 32, 105, 102, 32, 46, 34, 32, 98, 101, 108, 111, 119, 34, 32, 101, 108, 115, 101, 32, 46, 34, 32, 108, 101, 115, 115, 34, 32, 116, 104, 101, 110, 32, 101, 108, 115, 101, 32, 61, 32, 105, 102, 32, 46, 34, 32, 115, 97, 109, 101, 34, 32, 101, 108, 115, 101, 32, 46, 34, 32, 120, 34, 32, 116, 104, 101, 110, 32, 116, 104, 101, 110, 32, 59, 32]⟩ ++ X ++ ⟨#[32]⟩ ++ Y ++ ⟨#[32, 103]⟩) ⟨#[115, 97, 109, 101]⟩ :=
  fun w1 A1 => tells1 w0 _ _ _ _ (ifs5 a b ha hb h2 h1) (by rw [(str_join _ _ (((([58, 32, 103, 32, 111, 118, 101, 114, 32, 111, 118, 101, 114, 32, 60, 32, 105, 102, 32, 100, 114, 111, 112, 32, 48, 60, 32, 105, 102, 32, 46, 34, 32, 98, 101, 108, 111, 119, 34, 32, 101, 108, 115, 101, 32, 46, 34, 32, 108, 101, 115, 115, 34, 32, 116, 104, 101, 110, 32, 101, 108, 115, 101, 32, 61, 32, 105, 102, 32, 46, 34, 32, 115, 97, 109, 101, 34, 32, 101, 108, 115, 101, 32, 46, 34, 32, 120, 34, 32, 116, 104, 101, 110, 32, 116, 104, 101, 110, 32, 59, 32]) ++ Dg.putV (a) 10) ++ [32]) ++ Dg.putV (b) 10) ([32, 103]) (str_join _ _ ((([58, 32, 103, 32, 111, 118, 101, 114, 32, 111, 118, 101, 114, 32, 60, 32, 105, 102, 32, 100, 114, 111, 112, 32, 48, 60, 32, 105, 102, 32, 46, 34, 32, 98, 101, 108, 111, 119, 34, 32, 101, 108, 115, 101, 32, 46, 34, 32, 108, 101, 115, 115, 34, 32, 116, 104, 101, 110, 32, 101, 108, 115, 101, 32, 61, 32, 105, 102, 32, 46, 34, 32, 115, 97, 109, 101, 34, 32, 101, 108, 115, 101, 32, 46, 34, 32, 120, 34, 32, 116, 104, 101, 110, 32, 116, 104, 101, 110, 32, 59, 32]) ++ Dg.putV (a) 10) ++ [32]) (Dg.putV (b) 10) (str_join _ _ (([58, 32, 103, 32, 111, 118, 101, 114, 32, 111, 118, 101, 114, 32, 60, 32, 105, 102, 32, 100, 114, 111, 112, 32, 48, 60, 32, 105, 102, 32, 46, 34, 32, 98, 101, 108, 111, 119, 34, 32, 101, 108, 115, 101, 32, 46, 34, 32, 108, 101, 115, 115, 34, 32, 116, 104, 101, 110, 32, 101, 108, 115, 101, 32, 61, 32, 105, 102, 32, 46, 34, 32, 115, 97, 109, 101, 34, 32, 101, 108, 115, 101, 32, 46, 34, 32, 120, 34, 32, 116, 104, 101, 110, 32, 116, 104, 101, 110, 32, 59, 32]) ++ Dg.putV (a) 10) ([32]) (str_join _ _ ([58, 32, 103, 32, 111, 118, 101, 114, 32, 111, 118, 101, 114, 32, 60, 32, 105, 102, 32, 100, 114, 111, 112, 32, 48, 60, 32, 105, 102, 32, 46, 34, 32, 98, 101, 108, 111, 119, 34, 32, 101, 108, 115, 101, 32, 46, 34, 32, 108, 101, 115, 115, 34, 32, 116, 104, 101, 110, 32, 101, 108, 115, 101, 32, 61, 32, 105, 102, 32, 46, 34, 32, 115, 97, 109, 101, 34, 32, 101, 108, 115, 101, 32, 46, 34, 32, 120, 34, 32, 116, 104, 101, 110, 32, 116, 104, 101, 110, 32, 59, 32]) (Dg.putV (a) 10) rfl eX) rfl) eY) rfl)]; simp [flat, Tk.bytes]) rfl w1 A1
theorem ifs2_x (a b : Int) (ha : Mc.In a) (hb : Mc.In b) (h1 : decide (a < b) = false) (h2 : decide (a = b) = false) (X : ByteArray) (eX : X = ⟨(Dg.putV a 10).toArray⟩) (Y : ByteArray) (eY : Y = ⟨(Dg.putV b 10).toArray⟩) (w0 : World) : TellsP w0 (⟨#[58, 32, 103, 32, 111, 118, 101, 114, 32, 111, 118, 101, 114, 32, 60, 32, 105, 102, 32, 100, 114, 111, 112, 32, 48, 60, 32, 105, 102, 32, 46, 34, 32, 98, 101, 108, 111, 119, 34, 32, 101, 108, 115, 101, 32, 46, 34, 32, 108, 101, 115, 115, 34, 32, 116, 104, 101, 110, 32, 101, 108, 115, 101, 32, 61, 32, 105, 102, 32, 46, 34, 32, 115, 97, 109, 101, 34, 32, 101, 108, 115, 101, 32, 46, 34, 32, 120, 34, 32, 116, 104, 101, 110, 32, 116, 104, 101, 110, 32, 59, 32]⟩ ++ X ++ ⟨#[32]⟩ ++ Y ++ ⟨#[32, 103]⟩) ⟨#[120]⟩ :=
  fun w1 A1 => tells1 w0 _ _ _ _ (ifs6 a b ha hb h2 h1) (by rw [(str_join _ _ (((([58, 32, 103, 32, 111, 118, 101, 114, 32, 111, 118, 101, 114, 32, 60, 32, 105, 102, 32, 100, 114, 111, 112, 32, 48, 60, 32, 105, 102, 32, 46, 34, 32, 98, 101, 108, 111, 119, 34, 32, 101, 108, 115, 101, 32, 46, 34, 32, 108, 101, 115, 115, 34, 32, 116, 104, 101, 110, 32, 101, 108, 115, 101, 32, 61, 32, 105, 102, 32, 46, 34, 32, 115, 97, 109, 101, 34, 32, 101, 108, 115, 101, 32, 46, 34, 32, 120, 34, 32, 116, 104, 101, 110, 32, 116, 104, 101, 110, 32, 59, 32]) ++ Dg.putV (a) 10) ++ [32]) ++ Dg.putV (b) 10) ([32, 103]) (str_join _ _ ((([58, 32, 103, 32, 111, 118, 101, 114, 32, 111, 118, 101, 114, 32, 60, 32, 105, 102, 32, 100, 114, 111, 112, 32, 48, 60, 32, 105, 102, 32, 46, 34, 32, 98, 101, 108, 111, 119, 34, 32, 101, 108, 115, 101, 32, 46, 34, 32, 108, 101, 115, 115, 34, 32, 116, 104, 101, 110, 32, 101, 108, 115, 101, 32, 61, 32, 105, 102, 32, 46, 34, 32, 115, 97, 109, 101, 34, 32, 101, 108, 115, 101, 32, 46, 34, 32, 120, 34, 32, 116, 104, 101, 110, 32, 116, 104, 101, 110, 32, 59, 32]) ++ Dg.putV (a) 10) ++ [32]) (Dg.putV (b) 10) (str_join _ _ (([58, 32, 103, 32, 111, 118, 101, 114, 32, 111, 118, 101, 114, 32, 60, 32, 105, 102, 32, 100, 114, 111, 112, 32, 48, 60, 32, 105, 102, 32, 46, 34, 32, 98, 101, 108, 111, 119, 34, 32, 101, 108, 115, 101, 32, 46, 34, 32, 108, 101, 115, 115, 34, 32, 116, 104, 101, 110, 32, 101, 108, 115, 101, 32, 61, 32, 105, 102, 32, 46, 34, 32, 115, 97, 109, 101, 34, 32, 101, 108, 115, 101, 32, 46, 34, 32, 120, 34, 32, 116, 104, 101, 110, 32, 116, 104, 101, 110, 32, 59, 32]) ++ Dg.putV (a) 10) ([32]) (str_join _ _ ([58, 32, 103, 32, 111, 118, 101, 114, 32, 111, 118, 101, 114, 32, 60, 32, 105, 102, 32, 100, 114, 111, 112, 32, 48, 60, 32, 105, 102, 32, 46, 34, 32, 98, 101, 108, 111, 119, 34, 32, 101, 108, 115, 101, 32, 46, 34, 32, 108, 101, 115, 115, 34, 32, 116, 104, 101, 110, 32, 101, 108, 115, 101, 32, 61, 32, 105, 102, 32, 46, 34, 32, 115, 97, 109, 101, 34, 32, 101, 108, 115, 101, 32, 46, 34, 32, 120, 34, 32, 116, 104, 101, 110, 32, 116, 104, 101, 110, 32, 59, 32]) (Dg.putV (a) 10) rfl eX) rfl) eY) rfl)]; simp [flat, Tk.bytes]) rfl w1 A1
set_option maxHeartbeats 8000000 in
set_option maxRecDepth 100000 in
theorem ifs_no_below (a b : Int) (ha : Mc.In a) (hb : Mc.In b)  (h0 : decide (a = 0) = true) (h1 : decide (a < b) = true) (h2 : decide (a < 0) = true) (w : World) (A : Ahead w w) :
    Calls Tryz.prog 6 #[.int .i64 a, .int .i64 b] w fun e w' => e = .returned (.bool true) ∧ Below w.heap.size w w' := by
  have HAl := Lib.hid (fun w1 A1 => alive_any w w1 A1)
  have g0 : (a == 0) = true := by simpa using h0
  have HX := Lib.hid (fun w => num_any (a) ha w)
  obtain ⟨X, eX, sX⟩ := num_some (a) 10 ha (by decide)
  have HY := Lib.hid (fun w => num_any (b) hb w)
  obtain ⟨Y, eY, sY⟩ := num_some (b) 10 hb (by decide)
  have P1 := Lib.hid (ifs1_no a ha h0 X eX w)
  have P2 := Lib.hid (ifs2_below a b ha hb h1 h2 X eX Y eY w)
  rw [← eX] at HX
  rw [← eY] at HY
  have HA := Lib.hid A
  clear A eX eY ha hb
  go_enter Tryz.func6, Tryz.ntmps6
  go_wp2_with fail
  refine (HAl.out _ HA.out).mono ?_
  rintro e w1 ⟨rfl, k⟩
  have A1 := Lib.hid (HA.out.next k)
  have K1 := Lib.hid k
  clear k
  go_wp2_with fail
  refine (HX.out _).mono ?_
  rintro e w2 ⟨rfl, rfl⟩
  go_wp2_with fail
  refine (P1.out _ A1.out).mono ?_
  rintro e w2 ⟨rfl, k⟩
  have A2 := Lib.hid (A1.out.next k)
  have K2 := Lib.hid (K1.out.trans (k.mono K1.out.size))
  clear k K1 A1
  go_wp2_with fail
  refine (HX.out _).mono ?_
  rintro e w3 ⟨rfl, rfl⟩
  go_wp2_with fail
  refine (HY.out _).mono ?_
  rintro e w3 ⟨rfl, rfl⟩
  go_wp2_with fail
  refine (P2.out _ A2.out).mono ?_
  rintro e w3 ⟨rfl, k⟩
  have A3 := Lib.hid (A2.out.next k)
  have K3 := Lib.hid (K2.out.trans (k.mono K2.out.size))
  clear k K2 A2
  go_wp2_with fail
  go_ret
  exact ⟨rfl, K3.out⟩
set_option maxHeartbeats 8000000 in
set_option maxRecDepth 100000 in
theorem ifs_no_less (a b : Int) (ha : Mc.In a) (hb : Mc.In b)  (h0 : decide (a = 0) = true) (h1 : decide (a < b) = true) (h2 : decide (a < 0) = false) (w : World) (A : Ahead w w) :
    Calls Tryz.prog 6 #[.int .i64 a, .int .i64 b] w fun e w' => e = .returned (.bool true) ∧ Below w.heap.size w w' := by
  have HAl := Lib.hid (fun w1 A1 => alive_any w w1 A1)
  have g0 : (a == 0) = true := by simpa using h0
  have HX := Lib.hid (fun w => num_any (a) ha w)
  obtain ⟨X, eX, sX⟩ := num_some (a) 10 ha (by decide)
  have HY := Lib.hid (fun w => num_any (b) hb w)
  obtain ⟨Y, eY, sY⟩ := num_some (b) 10 hb (by decide)
  have P1 := Lib.hid (ifs1_no a ha h0 X eX w)
  have P2 := Lib.hid (ifs2_less a b ha hb h1 h2 X eX Y eY w)
  rw [← eX] at HX
  rw [← eY] at HY
  have HA := Lib.hid A
  clear A eX eY ha hb
  go_enter Tryz.func6, Tryz.ntmps6
  go_wp2_with fail
  refine (HAl.out _ HA.out).mono ?_
  rintro e w1 ⟨rfl, k⟩
  have A1 := Lib.hid (HA.out.next k)
  have K1 := Lib.hid k
  clear k
  go_wp2_with fail
  refine (HX.out _).mono ?_
  rintro e w2 ⟨rfl, rfl⟩
  go_wp2_with fail
  refine (P1.out _ A1.out).mono ?_
  rintro e w2 ⟨rfl, k⟩
  have A2 := Lib.hid (A1.out.next k)
  have K2 := Lib.hid (K1.out.trans (k.mono K1.out.size))
  clear k K1 A1
  go_wp2_with fail
  refine (HX.out _).mono ?_
  rintro e w3 ⟨rfl, rfl⟩
  go_wp2_with fail
  refine (HY.out _).mono ?_
  rintro e w3 ⟨rfl, rfl⟩
  go_wp2_with fail
  refine (P2.out _ A2.out).mono ?_
  rintro e w3 ⟨rfl, k⟩
  have A3 := Lib.hid (A2.out.next k)
  have K3 := Lib.hid (K2.out.trans (k.mono K2.out.size))
  clear k K2 A2
  go_wp2_with fail
  go_ret
  exact ⟨rfl, K3.out⟩
set_option maxHeartbeats 8000000 in
set_option maxRecDepth 100000 in
theorem ifs_no_same (a b : Int) (ha : Mc.In a) (hb : Mc.In b)  (h0 : decide (a = 0) = true) (h1 : decide (a < b) = false) (h2 : decide (a = b) = true) (w : World) (A : Ahead w w) :
    Calls Tryz.prog 6 #[.int .i64 a, .int .i64 b] w fun e w' => e = .returned (.bool true) ∧ Below w.heap.size w w' := by
  have HAl := Lib.hid (fun w1 A1 => alive_any w w1 A1)
  have g0 : (a == 0) = true := by simpa using h0
  have g1 : (a == b) = true := by simpa using h2
  have HX := Lib.hid (fun w => num_any (a) ha w)
  obtain ⟨X, eX, sX⟩ := num_some (a) 10 ha (by decide)
  have HY := Lib.hid (fun w => num_any (b) hb w)
  obtain ⟨Y, eY, sY⟩ := num_some (b) 10 hb (by decide)
  have P1 := Lib.hid (ifs1_no a ha h0 X eX w)
  have P2 := Lib.hid (ifs2_same a b ha hb h1 h2 X eX Y eY w)
  rw [← eX] at HX
  rw [← eY] at HY
  have HA := Lib.hid A
  clear A eX eY ha hb
  go_enter Tryz.func6, Tryz.ntmps6
  go_wp2_with fail
  refine (HAl.out _ HA.out).mono ?_
  rintro e w1 ⟨rfl, k⟩
  have A1 := Lib.hid (HA.out.next k)
  have K1 := Lib.hid k
  clear k
  go_wp2_with fail
  refine (HX.out _).mono ?_
  rintro e w2 ⟨rfl, rfl⟩
  go_wp2_with fail
  refine (P1.out _ A1.out).mono ?_
  rintro e w2 ⟨rfl, k⟩
  have A2 := Lib.hid (A1.out.next k)
  have K2 := Lib.hid (K1.out.trans (k.mono K1.out.size))
  clear k K1 A1
  go_wp2_with fail
  refine (HX.out _).mono ?_
  rintro e w3 ⟨rfl, rfl⟩
  go_wp2_with fail
  refine (HY.out _).mono ?_
  rintro e w3 ⟨rfl, rfl⟩
  go_wp2_with fail
  refine (P2.out _ A2.out).mono ?_
  rintro e w3 ⟨rfl, k⟩
  have A3 := Lib.hid (A2.out.next k)
  have K3 := Lib.hid (K2.out.trans (k.mono K2.out.size))
  clear k K2 A2
  go_wp2_with fail
  go_ret
  exact ⟨rfl, K3.out⟩
set_option maxHeartbeats 8000000 in
set_option maxRecDepth 100000 in
theorem ifs_no_x (a b : Int) (ha : Mc.In a) (hb : Mc.In b)  (h0 : decide (a = 0) = true) (h1 : decide (a < b) = false) (h2 : decide (a = b) = false) (w : World) (A : Ahead w w) :
    Calls Tryz.prog 6 #[.int .i64 a, .int .i64 b] w fun e w' => e = .returned (.bool true) ∧ Below w.heap.size w w' := by
  have HAl := Lib.hid (fun w1 A1 => alive_any w w1 A1)
  have g0 : (a == 0) = true := by simpa using h0
  have g1 : (a == b) = false := by simpa using h2
  have HX := Lib.hid (fun w => num_any (a) ha w)
  obtain ⟨X, eX, sX⟩ := num_some (a) 10 ha (by decide)
  have HY := Lib.hid (fun w => num_any (b) hb w)
  obtain ⟨Y, eY, sY⟩ := num_some (b) 10 hb (by decide)
  have P1 := Lib.hid (ifs1_no a ha h0 X eX w)
  have P2 := Lib.hid (ifs2_x a b ha hb h1 h2 X eX Y eY w)
  rw [← eX] at HX
  rw [← eY] at HY
  have HA := Lib.hid A
  clear A eX eY ha hb
  go_enter Tryz.func6, Tryz.ntmps6
  go_wp2_with fail
  refine (HAl.out _ HA.out).mono ?_
  rintro e w1 ⟨rfl, k⟩
  have A1 := Lib.hid (HA.out.next k)
  have K1 := Lib.hid k
  clear k
  go_wp2_with fail
  refine (HX.out _).mono ?_
  rintro e w2 ⟨rfl, rfl⟩
  go_wp2_with fail
  refine (P1.out _ A1.out).mono ?_
  rintro e w2 ⟨rfl, k⟩
  have A2 := Lib.hid (A1.out.next k)
  have K2 := Lib.hid (K1.out.trans (k.mono K1.out.size))
  clear k K1 A1
  go_wp2_with fail
  refine (HX.out _).mono ?_
  rintro e w3 ⟨rfl, rfl⟩
  go_wp2_with fail
  refine (HY.out _).mono ?_
  rintro e w3 ⟨rfl, rfl⟩
  go_wp2_with fail
  refine (P2.out _ A2.out).mono ?_
  rintro e w3 ⟨rfl, k⟩
  have A3 := Lib.hid (A2.out.next k)
  have K3 := Lib.hid (K2.out.trans (k.mono K2.out.size))
  clear k K2 A2
  go_wp2_with fail
  go_ret
  exact ⟨rfl, K3.out⟩
set_option maxHeartbeats 8000000 in
set_option maxRecDepth 100000 in
theorem ifs_yes_below (a b : Int) (ha : Mc.In a) (hb : Mc.In b)  (h0 : decide (a = 0) = false) (h1 : decide (a < b) = true) (h2 : decide (a < 0) = true) (w : World) (A : Ahead w w) :
    Calls Tryz.prog 6 #[.int .i64 a, .int .i64 b] w fun e w' => e = .returned (.bool true) ∧ Below w.heap.size w w' := by
  have HAl := Lib.hid (fun w1 A1 => alive_any w w1 A1)
  have g0 : (a == 0) = false := by simpa using h0
  have HX := Lib.hid (fun w => num_any (a) ha w)
  obtain ⟨X, eX, sX⟩ := num_some (a) 10 ha (by decide)
  have HY := Lib.hid (fun w => num_any (b) hb w)
  obtain ⟨Y, eY, sY⟩ := num_some (b) 10 hb (by decide)
  have P1 := Lib.hid (ifs1_yes a ha h0 X eX w)
  have P2 := Lib.hid (ifs2_below a b ha hb h1 h2 X eX Y eY w)
  rw [← eX] at HX
  rw [← eY] at HY
  have HA := Lib.hid A
  clear A eX eY ha hb
  go_enter Tryz.func6, Tryz.ntmps6
  go_wp2_with fail
  refine (HAl.out _ HA.out).mono ?_
  rintro e w1 ⟨rfl, k⟩
  have A1 := Lib.hid (HA.out.next k)
  have K1 := Lib.hid k
  clear k
  go_wp2_with fail
  refine (HX.out _).mono ?_
  rintro e w2 ⟨rfl, rfl⟩
  go_wp2_with fail
  refine (P1.out _ A1.out).mono ?_
  rintro e w2 ⟨rfl, k⟩
  have A2 := Lib.hid (A1.out.next k)
  have K2 := Lib.hid (K1.out.trans (k.mono K1.out.size))
  clear k K1 A1
  go_wp2_with fail
  refine (HX.out _).mono ?_
  rintro e w3 ⟨rfl, rfl⟩
  go_wp2_with fail
  refine (HY.out _).mono ?_
  rintro e w3 ⟨rfl, rfl⟩
  go_wp2_with fail
  refine (P2.out _ A2.out).mono ?_
  rintro e w3 ⟨rfl, k⟩
  have A3 := Lib.hid (A2.out.next k)
  have K3 := Lib.hid (K2.out.trans (k.mono K2.out.size))
  clear k K2 A2
  go_wp2_with fail
  go_ret
  exact ⟨rfl, K3.out⟩
set_option maxHeartbeats 8000000 in
set_option maxRecDepth 100000 in
theorem ifs_yes_less (a b : Int) (ha : Mc.In a) (hb : Mc.In b)  (h0 : decide (a = 0) = false) (h1 : decide (a < b) = true) (h2 : decide (a < 0) = false) (w : World) (A : Ahead w w) :
    Calls Tryz.prog 6 #[.int .i64 a, .int .i64 b] w fun e w' => e = .returned (.bool true) ∧ Below w.heap.size w w' := by
  have HAl := Lib.hid (fun w1 A1 => alive_any w w1 A1)
  have g0 : (a == 0) = false := by simpa using h0
  have HX := Lib.hid (fun w => num_any (a) ha w)
  obtain ⟨X, eX, sX⟩ := num_some (a) 10 ha (by decide)
  have HY := Lib.hid (fun w => num_any (b) hb w)
  obtain ⟨Y, eY, sY⟩ := num_some (b) 10 hb (by decide)
  have P1 := Lib.hid (ifs1_yes a ha h0 X eX w)
  have P2 := Lib.hid (ifs2_less a b ha hb h1 h2 X eX Y eY w)
  rw [← eX] at HX
  rw [← eY] at HY
  have HA := Lib.hid A
  clear A eX eY ha hb
  go_enter Tryz.func6, Tryz.ntmps6
  go_wp2_with fail
  refine (HAl.out _ HA.out).mono ?_
  rintro e w1 ⟨rfl, k⟩
  have A1 := Lib.hid (HA.out.next k)
  have K1 := Lib.hid k
  clear k
  go_wp2_with fail
  refine (HX.out _).mono ?_
  rintro e w2 ⟨rfl, rfl⟩
  go_wp2_with fail
  refine (P1.out _ A1.out).mono ?_
  rintro e w2 ⟨rfl, k⟩
  have A2 := Lib.hid (A1.out.next k)
  have K2 := Lib.hid (K1.out.trans (k.mono K1.out.size))
  clear k K1 A1
  go_wp2_with fail
  refine (HX.out _).mono ?_
  rintro e w3 ⟨rfl, rfl⟩
  go_wp2_with fail
  refine (HY.out _).mono ?_
  rintro e w3 ⟨rfl, rfl⟩
  go_wp2_with fail
  refine (P2.out _ A2.out).mono ?_
  rintro e w3 ⟨rfl, k⟩
  have A3 := Lib.hid (A2.out.next k)
  have K3 := Lib.hid (K2.out.trans (k.mono K2.out.size))
  clear k K2 A2
  go_wp2_with fail
  go_ret
  exact ⟨rfl, K3.out⟩
set_option maxHeartbeats 8000000 in
set_option maxRecDepth 100000 in
theorem ifs_yes_same (a b : Int) (ha : Mc.In a) (hb : Mc.In b)  (h0 : decide (a = 0) = false) (h1 : decide (a < b) = false) (h2 : decide (a = b) = true) (w : World) (A : Ahead w w) :
    Calls Tryz.prog 6 #[.int .i64 a, .int .i64 b] w fun e w' => e = .returned (.bool true) ∧ Below w.heap.size w w' := by
  have HAl := Lib.hid (fun w1 A1 => alive_any w w1 A1)
  have g0 : (a == 0) = false := by simpa using h0
  have g1 : (a == b) = true := by simpa using h2
  have HX := Lib.hid (fun w => num_any (a) ha w)
  obtain ⟨X, eX, sX⟩ := num_some (a) 10 ha (by decide)
  have HY := Lib.hid (fun w => num_any (b) hb w)
  obtain ⟨Y, eY, sY⟩ := num_some (b) 10 hb (by decide)
  have P1 := Lib.hid (ifs1_yes a ha h0 X eX w)
  have P2 := Lib.hid (ifs2_same a b ha hb h1 h2 X eX Y eY w)
  rw [← eX] at HX
  rw [← eY] at HY
  have HA := Lib.hid A
  clear A eX eY ha hb
  go_enter Tryz.func6, Tryz.ntmps6
  go_wp2_with fail
  refine (HAl.out _ HA.out).mono ?_
  rintro e w1 ⟨rfl, k⟩
  have A1 := Lib.hid (HA.out.next k)
  have K1 := Lib.hid k
  clear k
  go_wp2_with fail
  refine (HX.out _).mono ?_
  rintro e w2 ⟨rfl, rfl⟩
  go_wp2_with fail
  refine (P1.out _ A1.out).mono ?_
  rintro e w2 ⟨rfl, k⟩
  have A2 := Lib.hid (A1.out.next k)
  have K2 := Lib.hid (K1.out.trans (k.mono K1.out.size))
  clear k K1 A1
  go_wp2_with fail
  refine (HX.out _).mono ?_
  rintro e w3 ⟨rfl, rfl⟩
  go_wp2_with fail
  refine (HY.out _).mono ?_
  rintro e w3 ⟨rfl, rfl⟩
  go_wp2_with fail
  refine (P2.out _ A2.out).mono ?_
  rintro e w3 ⟨rfl, k⟩
  have A3 := Lib.hid (A2.out.next k)
  have K3 := Lib.hid (K2.out.trans (k.mono K2.out.size))
  clear k K2 A2
  go_wp2_with fail
  go_ret
  exact ⟨rfl, K3.out⟩
set_option maxHeartbeats 8000000 in
set_option maxRecDepth 100000 in
theorem ifs_yes_x (a b : Int) (ha : Mc.In a) (hb : Mc.In b)  (h0 : decide (a = 0) = false) (h1 : decide (a < b) = false) (h2 : decide (a = b) = false) (w : World) (A : Ahead w w) :
    Calls Tryz.prog 6 #[.int .i64 a, .int .i64 b] w fun e w' => e = .returned (.bool true) ∧ Below w.heap.size w w' := by
  have HAl := Lib.hid (fun w1 A1 => alive_any w w1 A1)
  have g0 : (a == 0) = false := by simpa using h0
  have g1 : (a == b) = false := by simpa using h2
  have HX := Lib.hid (fun w => num_any (a) ha w)
  obtain ⟨X, eX, sX⟩ := num_some (a) 10 ha (by decide)
  have HY := Lib.hid (fun w => num_any (b) hb w)
  obtain ⟨Y, eY, sY⟩ := num_some (b) 10 hb (by decide)
  have P1 := Lib.hid (ifs1_yes a ha h0 X eX w)
  have P2 := Lib.hid (ifs2_x a b ha hb h1 h2 X eX Y eY w)
  rw [← eX] at HX
  rw [← eY] at HY
  have HA := Lib.hid A
  clear A eX eY ha hb
  go_enter Tryz.func6, Tryz.ntmps6
  go_wp2_with fail
  refine (HAl.out _ HA.out).mono ?_
  rintro e w1 ⟨rfl, k⟩
  have A1 := Lib.hid (HA.out.next k)
  have K1 := Lib.hid k
  clear k
  go_wp2_with fail
  refine (HX.out _).mono ?_
  rintro e w2 ⟨rfl, rfl⟩
  go_wp2_with fail
  refine (P1.out _ A1.out).mono ?_
  rintro e w2 ⟨rfl, k⟩
  have A2 := Lib.hid (A1.out.next k)
  have K2 := Lib.hid (K1.out.trans (k.mono K1.out.size))
  clear k K1 A1
  go_wp2_with fail
  refine (HX.out _).mono ?_
  rintro e w3 ⟨rfl, rfl⟩
  go_wp2_with fail
  refine (HY.out _).mono ?_
  rintro e w3 ⟨rfl, rfl⟩
  go_wp2_with fail
  refine (P2.out _ A2.out).mono ?_
  rintro e w3 ⟨rfl, k⟩
  have A3 := Lib.hid (A2.out.next k)
  have K3 := Lib.hid (K2.out.trans (k.mono K2.out.size))
  clear k K2 A2
  go_wp2_with fail
  go_ret
  exact ⟨rfl, K3.out⟩
set_option maxHeartbeats 8000000 in
set_option maxRecDepth 100000 in
theorem ifs_walk (a b : Int) (ha : Mc.In a) (hb : Mc.In b)  (w : World) (A : Ahead w w) :
    Calls Tryz.prog 6 #[.int .i64 a, .int .i64 b] w fun e w' => e = .returned (.bool true) ∧ Below w.heap.size w w' := by
  cases h0 : decide (a = 0) <;> cases h1 : decide (a < b)
  · cases h2 : decide (a = b)
    · exact ifs_yes_x a b ha hb h0 h1 h2 w A
    · exact ifs_yes_same a b ha hb h0 h1 h2 w A
  · cases h2 : decide (a < 0)
    · exact ifs_yes_less a b ha hb h0 h1 h2 w A
    · exact ifs_yes_below a b ha hb h0 h1 h2 w A
  · cases h2 : decide (a = b)
    · exact ifs_no_x a b ha hb h0 h1 h2 w A
    · exact ifs_no_same a b ha hb h0 h1 h2 w A
  · cases h2 : decide (a < 0)
    · exact ifs_no_less a b ha hb h0 h1 h2 w A
    · exact ifs_no_below a b ha hb h0 h1 h2 w A
end Go.Proofs.YtompdfpjmdnhoaaGreatDoor.Ou
