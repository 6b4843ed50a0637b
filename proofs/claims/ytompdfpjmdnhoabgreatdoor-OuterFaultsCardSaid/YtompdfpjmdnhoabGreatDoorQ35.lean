/-
  Lemmas on the way, for every input that they name: OrF, OrS, OoY, OpA, OpB, OpC, OpD, OpE.
-/
import Derived.Test.YtompdfpjmdnhoabGreatDoorQ09
import Derived.Test.YtompdfpjmdnhoabGreatDoorQ10
import Derived.Test.YtompdfpjmdnhoabGreatDoorQ25
import Derived.Test.YtompdfpjmdnhoabGreatDoorQ26
import Derived.Test.YtompdfpjmdnhoabGreatDoorQ31
import Derived.Test.YtompdfpjmdnhoabGreatDoorQ32
import Derived.Test.YtompdfpjmdnhoabGreatDoorQ33
import Derived.Test.YtompdfpjmdnhoabGreatDoorQ34
set_option linter.unusedVariables false
set_option linter.unusedSimpArgs false
set_option linter.deprecated false
namespace Go.Proofs.YtompdfpjmdnhoabGreatDoor.Ou
open Go.RowKit Go.Proofs.YtompdfpjmdnhoabGreatDoor.Rs
set_option maxHeartbeats 2000000 in
set_option maxRecDepth 100000 in
theorem own_w30 (s : ByteArray) (w : World) (hs : s.size ≤ 100000) (hu : ups s = [92]) : Calls Tryz.prog 41 #[.string s] w (OwnIs w 3 ⟨#[92]⟩ true) := by
  have HG := Lib.hid (fun w => ogreat_any s w hs)
  rw [hu] at HG
  have k0 := Lib.hid ((Below.refl w.heap.size w).alloc (Nat.le_refl _) (.cells #[.int .i64 0, .string ⟨#[]⟩] 80))
  have B0 := Lib.hid (Blk.new w 80 #[.int .i64 0, .string ⟨#[]⟩])
  go_enter Tryz.func41, Tryz.ntmps41
  go_wp2_with fail
  refine (HG.out _).mono ?_
  rintro e w2 ⟨rfl, k2⟩
  have D2 := Lib.hid (B0.out.below k2 B0.out.lt)
  have K2 := Lib.hid (k0.out.trans (k2.mono k0.out.size))
  have HI := Lib.hid (deed_info 3 ⟨#[92]⟩)
  have H1 := Lib.hid (deed_one 3 ⟨#[92]⟩)
  clear k0 B0 k2 HG
  go_wp2_with (refine wpList_store_row rfl _ _ _ rfl w.heap.size #[.int .i64 3, .string ⟨#[92]⟩] rfl rfl _ _ D2.out HI.out rfl H1.out ?_)
  refine bodyPost_ret (Mc.results_row_tmp rfl _ _ w.heap.size _ _ (0, 0) _ rfl (setRow_heap _ _ _ _ _ _ D2.out) Tryz.underlying80 rfl HI.out) rfl ⟨rfl, ?_⟩
  exact K2.out.trans ⟨rfl, rfl, rfl, by simp, fun k hk => setRow_other _ _ _ _ (Nat.ne_of_lt hk)⟩
set_option maxHeartbeats 2000000 in
set_option maxRecDepth 100000 in
theorem own_w31 (s : ByteArray) (w : World) (hs : s.size ≤ 100000) (hu : ups s = [46, 34]) : Calls Tryz.prog 41 #[.string s] w (OwnIs w 3 ⟨#[46, 34]⟩ true) := by
  have HG := Lib.hid (fun w => ogreat_any s w hs)
  rw [hu] at HG
  have k0 := Lib.hid ((Below.refl w.heap.size w).alloc (Nat.le_refl _) (.cells #[.int .i64 0, .string ⟨#[]⟩] 80))
  have B0 := Lib.hid (Blk.new w 80 #[.int .i64 0, .string ⟨#[]⟩])
  go_enter Tryz.func41, Tryz.ntmps41
  go_wp2_with fail
  refine (HG.out _).mono ?_
  rintro e w2 ⟨rfl, k2⟩
  have D2 := Lib.hid (B0.out.below k2 B0.out.lt)
  have K2 := Lib.hid (k0.out.trans (k2.mono k0.out.size))
  have HI := Lib.hid (deed_info 3 ⟨#[46, 34]⟩)
  have H1 := Lib.hid (deed_one 3 ⟨#[46, 34]⟩)
  clear k0 B0 k2 HG
  go_wp2_with (refine wpList_store_row rfl _ _ _ rfl w.heap.size #[.int .i64 3, .string ⟨#[46, 34]⟩] rfl rfl _ _ D2.out HI.out rfl H1.out ?_)
  refine bodyPost_ret (Mc.results_row_tmp rfl _ _ w.heap.size _ _ (0, 0) _ rfl (setRow_heap _ _ _ _ _ _ D2.out) Tryz.underlying80 rfl HI.out) rfl ⟨rfl, ?_⟩
  exact K2.out.trans ⟨rfl, rfl, rfl, by simp, fun k hk => setRow_other _ _ _ _ (Nat.ne_of_lt hk)⟩
set_option maxHeartbeats 2000000 in
set_option maxRecDepth 100000 in
theorem own_w32 (s : ByteArray) (w : World) (hs : s.size ≤ 100000) (hu : ups s = [67, 72, 65, 82]) : Calls Tryz.prog 41 #[.string s] w (OwnIs w 3 ⟨#[67, 72, 65, 82]⟩ true) := by
  have HG := Lib.hid (fun w => ogreat_any s w hs)
  rw [hu] at HG
  have k0 := Lib.hid ((Below.refl w.heap.size w).alloc (Nat.le_refl _) (.cells #[.int .i64 0, .string ⟨#[]⟩] 80))
  have B0 := Lib.hid (Blk.new w 80 #[.int .i64 0, .string ⟨#[]⟩])
  go_enter Tryz.func41, Tryz.ntmps41
  go_wp2_with fail
  refine (HG.out _).mono ?_
  rintro e w2 ⟨rfl, k2⟩
  have D2 := Lib.hid (B0.out.below k2 B0.out.lt)
  have K2 := Lib.hid (k0.out.trans (k2.mono k0.out.size))
  have HI := Lib.hid (deed_info 3 ⟨#[67, 72, 65, 82]⟩)
  have H1 := Lib.hid (deed_one 3 ⟨#[67, 72, 65, 82]⟩)
  clear k0 B0 k2 HG
  go_wp2_with (refine wpList_store_row rfl _ _ _ rfl w.heap.size #[.int .i64 3, .string ⟨#[67, 72, 65, 82]⟩] rfl rfl _ _ D2.out HI.out rfl H1.out ?_)
  refine bodyPost_ret (Mc.results_row_tmp rfl _ _ w.heap.size _ _ (0, 0) _ rfl (setRow_heap _ _ _ _ _ _ D2.out) Tryz.underlying80 rfl HI.out) rfl ⟨rfl, ?_⟩
  exact K2.out.trans ⟨rfl, rfl, rfl, by simp, fun k hk => setRow_other _ _ _ _ (Nat.ne_of_lt hk)⟩
set_option maxHeartbeats 2000000 in
set_option maxRecDepth 100000 in
theorem own_w33 (s : ByteArray) (w : World) (hs : s.size ≤ 100000) (hu : ups s = [72, 69, 88]) : Calls Tryz.prog 41 #[.string s] w (OwnIs w 3 ⟨#[72, 69, 88]⟩ true) := by
  have HG := Lib.hid (fun w => ogreat_any s w hs)
  rw [hu] at HG
  have k0 := Lib.hid ((Below.refl w.heap.size w).alloc (Nat.le_refl _) (.cells #[.int .i64 0, .string ⟨#[]⟩] 80))
  have B0 := Lib.hid (Blk.new w 80 #[.int .i64 0, .string ⟨#[]⟩])
  go_enter Tryz.func41, Tryz.ntmps41
  go_wp2_with fail
  refine (HG.out _).mono ?_
  rintro e w2 ⟨rfl, k2⟩
  have D2 := Lib.hid (B0.out.below k2 B0.out.lt)
  have K2 := Lib.hid (k0.out.trans (k2.mono k0.out.size))
  have HI := Lib.hid (deed_info 3 ⟨#[72, 69, 88]⟩)
  have H1 := Lib.hid (deed_one 3 ⟨#[72, 69, 88]⟩)
  clear k0 B0 k2 HG
  go_wp2_with (refine wpList_store_row rfl _ _ _ rfl w.heap.size #[.int .i64 3, .string ⟨#[72, 69, 88]⟩] rfl rfl _ _ D2.out HI.out rfl H1.out ?_)
  refine bodyPost_ret (Mc.results_row_tmp rfl _ _ w.heap.size _ _ (0, 0) _ rfl (setRow_heap _ _ _ _ _ _ D2.out) Tryz.underlying80 rfl HI.out) rfl ⟨rfl, ?_⟩
  exact K2.out.trans ⟨rfl, rfl, rfl, by simp, fun k hk => setRow_other _ _ _ _ (Nat.ne_of_lt hk)⟩
set_option maxHeartbeats 2000000 in
set_option maxRecDepth 100000 in
theorem own_w34 (s : ByteArray) (w : World) (hs : s.size ≤ 100000) (hu : ups s = [68, 69, 67, 73, 77, 65, 76]) : Calls Tryz.prog 41 #[.string s] w (OwnIs w 3 ⟨#[68, 69, 67, 73, 77, 65, 76]⟩ true) := by
  have HG := Lib.hid (fun w => ogreat_any s w hs)
  rw [hu] at HG
  have k0 := Lib.hid ((Below.refl w.heap.size w).alloc (Nat.le_refl _) (.cells #[.int .i64 0, .string ⟨#[]⟩] 80))
  have B0 := Lib.hid (Blk.new w 80 #[.int .i64 0, .string ⟨#[]⟩])
  go_enter Tryz.func41, Tryz.ntmps41
  go_wp2_with fail
  refine (HG.out _).mono ?_
  rintro e w2 ⟨rfl, k2⟩
  have D2 := Lib.hid (B0.out.below k2 B0.out.lt)
  have K2 := Lib.hid (k0.out.trans (k2.mono k0.out.size))
  have HI := Lib.hid (deed_info 3 ⟨#[68, 69, 67, 73, 77, 65, 76]⟩)
  have H1 := Lib.hid (deed_one 3 ⟨#[68, 69, 67, 73, 77, 65, 76]⟩)
  clear k0 B0 k2 HG
  go_wp2_with (refine wpList_store_row rfl _ _ _ rfl w.heap.size #[.int .i64 3, .string ⟨#[68, 69, 67, 73, 77, 65, 76]⟩] rfl rfl _ _ D2.out HI.out rfl H1.out ?_)
  refine bodyPost_ret (Mc.results_row_tmp rfl _ _ w.heap.size _ _ (0, 0) _ rfl (setRow_heap _ _ _ _ _ _ D2.out) Tryz.underlying80 rfl HI.out) rfl ⟨rfl, ?_⟩
  exact K2.out.trans ⟨rfl, rfl, rfl, by simp, fun k hk => setRow_other _ _ _ _ (Nat.ne_of_lt hk)⟩
end Go.Proofs.YtompdfpjmdnhoabGreatDoor.Ou
namespace Go.Proofs.YtompdfpjmdnhoabGreatDoor.Ou
open Go.RowKit Go.Proofs.YtompdfpjmdnhoabGreatDoor.Rs
theorem ne_own {u l : List UInt8} (h : ¬ u = l) : ((⟨u.toArray⟩ : ByteArray).toList == l) = false := by
  rw [ByteArray.toList_eq]
  show (u.toArray.toList == l) = false
  rw [List.toList_toArray]
  simpa using h
set_option maxHeartbeats 4000000 in
set_option maxRecDepth 100000 in
theorem own_none (s : ByteArray) (w : World) (hs : s.size ≤ 100000) (h0 : ¬ ups s = [58]) (h1 : ¬ ups s = [67, 79, 78, 83, 84, 65, 78, 84]) (h2 : ¬ ups s = [86, 65, 82, 73, 65, 66, 76, 69]) (h3 : ¬ ups s = [67, 82, 69, 65, 84, 69]) (h4 : ¬ ups s = [44]) (h5 : ¬ ups s = [65, 76, 76, 79, 84]) (h6 : ¬ ups s = [72, 69, 82, 69]) (h7 : ¬ ups s = [39]) (h8 : ¬ ups s = [73, 77, 77, 69, 68, 73, 65, 84, 69]) (h9 : ¬ ups s = [70, 79, 82, 71, 69, 84]) (h10 : ¬ ups s = [59]) (h11 : ¬ ups s = [91, 39, 93]) (h12 : ¬ ups s = [69, 88, 73, 84]) (h13 : ¬ ups s = [73]) (h14 : ¬ ups s = [74]) (h15 : ¬ ups s = [85, 78, 76, 79, 79, 80]) (h16 : ¬ ups s = [82, 69, 67, 85, 82, 83, 69]) (h17 : ¬ ups s = [76, 73, 84, 69, 82, 65, 76]) (h18 : ¬ ups s = [73, 70]) (h19 : ¬ ups s = [69, 76, 83, 69]) (h20 : ¬ ups s = [84, 72, 69, 78]) (h21 : ¬ ups s = [66, 69, 71, 73, 78]) (h22 : ¬ ups s = [85, 78, 84, 73, 76]) (h23 : ¬ ups s = [65, 71, 65, 73, 78]) (h24 : ¬ ups s = [87, 72, 73, 76, 69]) (h25 : ¬ ups s = [82, 69, 80, 69, 65, 84]) (h26 : ¬ ups s = [68, 79]) (h27 : ¬ ups s = [76, 79, 79, 80]) (h28 : ¬ ups s = [43, 76, 79, 79, 80]) (h29 : ¬ ups s = [40]) (h30 : ¬ ups s = [92]) (h31 : ¬ ups s = [46, 34]) (h32 : ¬ ups s = [67, 72, 65, 82]) (h33 : ¬ ups s = [72, 69, 88]) (h34 : ¬ ups s = [68, 69, 67, 73, 77, 65, 76]) :
    Calls Tryz.prog 41 #[.string s] w (OwnIs w 0 ⟨#[]⟩ false) := by
  have HG := Lib.hid (fun w => ogreat_any s w hs)
  generalize ups s = u at *
  have E0 := Lib.hid (ne_own h0)
  have E1 := Lib.hid (ne_own h1)
  have E2 := Lib.hid (ne_own h2)
  have E3 := Lib.hid (ne_own h3)
  have E4 := Lib.hid (ne_own h4)
  have E5 := Lib.hid (ne_own h5)
  have E6 := Lib.hid (ne_own h6)
  have E7 := Lib.hid (ne_own h7)
  have E8 := Lib.hid (ne_own h8)
  have E9 := Lib.hid (ne_own h9)
  have E10 := Lib.hid (ne_own h10)
  have E11 := Lib.hid (ne_own h11)
  have E12 := Lib.hid (ne_own h12)
  have E13 := Lib.hid (ne_own h13)
  have E14 := Lib.hid (ne_own h14)
  have E15 := Lib.hid (ne_own h15)
  have E16 := Lib.hid (ne_own h16)
  have E17 := Lib.hid (ne_own h17)
  have E18 := Lib.hid (ne_own h18)
  have E19 := Lib.hid (ne_own h19)
  have E20 := Lib.hid (ne_own h20)
  have E21 := Lib.hid (ne_own h21)
  have E22 := Lib.hid (ne_own h22)
  have E23 := Lib.hid (ne_own h23)
  have E24 := Lib.hid (ne_own h24)
  have E25 := Lib.hid (ne_own h25)
  have E26 := Lib.hid (ne_own h26)
  have E27 := Lib.hid (ne_own h27)
  have E28 := Lib.hid (ne_own h28)
  have E29 := Lib.hid (ne_own h29)
  have E30 := Lib.hid (ne_own h30)
  have E31 := Lib.hid (ne_own h31)
  have E32 := Lib.hid (ne_own h32)
  have E33 := Lib.hid (ne_own h33)
  have E34 := Lib.hid (ne_own h34)
  clear h0 h1 h2 h3 h4 h5 h6 h7 h8 h9 h10 h11 h12 h13 h14 h15 h16 h17 h18 h19 h20 h21 h22 h23 h24 h25 h26 h27 h28 h29 h30 h31 h32 h33 h34
  generalize (⟨u.toArray⟩ : ByteArray) = U at *
  have k0 := Lib.hid ((Below.refl w.heap.size w).alloc (Nat.le_refl _) (.cells #[.int .i64 0, .string ⟨#[]⟩] 80))
  have B0 := Lib.hid (Blk.new w 80 #[.int .i64 0, .string ⟨#[]⟩])
  go_enter Tryz.func41, Tryz.ntmps41
  go_wp2_with fail
  refine (HG.out _).mono ?_
  rintro e w2 ⟨rfl, k2⟩
  have D2 := Lib.hid (B0.out.below k2 B0.out.lt)
  have K2 := Lib.hid (k0.out.trans (k2.mono k0.out.size))
  have HI := Lib.hid (deed_info 0 ⟨#[]⟩)
  have H1 := Lib.hid (deed_one 0 ⟨#[]⟩)
  clear k0 B0 k2 HG
  have e0 := E0.out
  have e1 := E1.out
  have e2 := E2.out
  have e3 := E3.out
  have e4 := E4.out
  have e5 := E5.out
  have e6 := E6.out
  have e7 := E7.out
  have e8 := E8.out
  have e9 := E9.out
  have e10 := E10.out
  have e11 := E11.out
  have e12 := E12.out
  have e13 := E13.out
  have e14 := E14.out
  have e15 := E15.out
  have e16 := E16.out
  have e17 := E17.out
  have e18 := E18.out
  have e19 := E19.out
  have e20 := E20.out
  have e21 := E21.out
  have e22 := E22.out
  have e23 := E23.out
  have e24 := E24.out
  have e25 := E25.out
  have e26 := E26.out
  have e27 := E27.out
  have e28 := E28.out
  have e29 := E29.out
  have e30 := E30.out
  have e31 := E31.out
  have e32 := E32.out
  have e33 := E33.out
  have e34 := E34.out
  clear E0 E1 E2 E3 E4 E5 E6 E7 E8 E9 E10 E11 E12 E13 E14 E15 E16 E17 E18 E19 E20 E21 E22 E23 E24 E25 E26 E27 E28 E29 E30 E31 E32 E33 E34
  go_wp2_with (refine wpList_store_row rfl _ _ _ rfl w.heap.size #[.int .i64 0, .string ⟨#[]⟩] rfl rfl _ _ D2.out HI.out rfl H1.out ?_)
  refine bodyPost_ret (Mc.results_row_tmp rfl _ _ w.heap.size _ _ (0, 0) _ rfl (setRow_heap _ _ _ _ _ _ D2.out) Tryz.underlying80 rfl HI.out) rfl ⟨rfl, ?_⟩
  exact K2.out.trans ⟨rfl, rfl, rfl, by simp, fun k hk => setRow_other _ _ _ _ (Nat.ne_of_lt hk)⟩
def OwnPost (w : World) (u : List UInt8) (e : Ending) (w' : World) : Prop := OwnIs w (ownC u) (if ownC u = 0 then ⟨#[]⟩ else ⟨u.toArray⟩) (decide (ownC u ≠ 0)) e w'
set_option maxRecDepth 100000 in
theorem own_any (s : ByteArray) (w : World) (hs : s.size ≤ 100000) : Calls Tryz.prog 41 #[.string s] w (OwnPost w (ups s)) := by
  unfold OwnPost
  by_cases h0 : ups s = [58]
  · rw [h0, show ownC [58] = 1 from by decide]; exact own_w0 s w hs h0
  by_cases h1 : ups s = [67, 79, 78, 83, 84, 65, 78, 84]
  · rw [h1, show ownC [67, 79, 78, 83, 84, 65, 78, 84] = 1 from by decide]; exact own_w1 s w hs h1
  by_cases h2 : ups s = [86, 65, 82, 73, 65, 66, 76, 69]
  · rw [h2, show ownC [86, 65, 82, 73, 65, 66, 76, 69] = 1 from by decide]; exact own_w2 s w hs h2
  by_cases h3 : ups s = [67, 82, 69, 65, 84, 69]
  · rw [h3, show ownC [67, 82, 69, 65, 84, 69] = 1 from by decide]; exact own_w3 s w hs h3
  by_cases h4 : ups s = [44]
  · rw [h4, show ownC [44] = 1 from by decide]; exact own_w4 s w hs h4
  by_cases h5 : ups s = [65, 76, 76, 79, 84]
  · rw [h5, show ownC [65, 76, 76, 79, 84] = 1 from by decide]; exact own_w5 s w hs h5
  by_cases h6 : ups s = [72, 69, 82, 69]
  · rw [h6, show ownC [72, 69, 82, 69] = 1 from by decide]; exact own_w6 s w hs h6
  by_cases h7 : ups s = [39]
  · rw [h7, show ownC [39] = 1 from by decide]; exact own_w7 s w hs h7
  by_cases h8 : ups s = [73, 77, 77, 69, 68, 73, 65, 84, 69]
  · rw [h8, show ownC [73, 77, 77, 69, 68, 73, 65, 84, 69] = 1 from by decide]; exact own_w8 s w hs h8
  by_cases h9 : ups s = [70, 79, 82, 71, 69, 84]
  · rw [h9, show ownC [70, 79, 82, 71, 69, 84] = 1 from by decide]; exact own_w9 s w hs h9
  by_cases h10 : ups s = [59]
  · rw [h10, show ownC [59] = 2 from by decide]; exact own_w10 s w hs h10
  by_cases h11 : ups s = [91, 39, 93]
  · rw [h11, show ownC [91, 39, 93] = 2 from by decide]; exact own_w11 s w hs h11
  by_cases h12 : ups s = [69, 88, 73, 84]
  · rw [h12, show ownC [69, 88, 73, 84] = 2 from by decide]; exact own_w12 s w hs h12
  by_cases h13 : ups s = [73]
  · rw [h13, show ownC [73] = 2 from by decide]; exact own_w13 s w hs h13
  by_cases h14 : ups s = [74]
  · rw [h14, show ownC [74] = 2 from by decide]; exact own_w14 s w hs h14
  by_cases h15 : ups s = [85, 78, 76, 79, 79, 80]
  · rw [h15, show ownC [85, 78, 76, 79, 79, 80] = 2 from by decide]; exact own_w15 s w hs h15
  by_cases h16 : ups s = [82, 69, 67, 85, 82, 83, 69]
  · rw [h16, show ownC [82, 69, 67, 85, 82, 83, 69] = 2 from by decide]; exact own_w16 s w hs h16
  by_cases h17 : ups s = [76, 73, 84, 69, 82, 65, 76]
  · rw [h17, show ownC [76, 73, 84, 69, 82, 65, 76] = 2 from by decide]; exact own_w17 s w hs h17
  by_cases h18 : ups s = [73, 70]
  · rw [h18, show ownC [73, 70] = 2 from by decide]; exact own_w18 s w hs h18
  by_cases h19 : ups s = [69, 76, 83, 69]
  · rw [h19, show ownC [69, 76, 83, 69] = 2 from by decide]; exact own_w19 s w hs h19
  by_cases h20 : ups s = [84, 72, 69, 78]
  · rw [h20, show ownC [84, 72, 69, 78] = 2 from by decide]; exact own_w20 s w hs h20
  by_cases h21 : ups s = [66, 69, 71, 73, 78]
  · rw [h21, show ownC [66, 69, 71, 73, 78] = 2 from by decide]; exact own_w21 s w hs h21
  by_cases h22 : ups s = [85, 78, 84, 73, 76]
  · rw [h22, show ownC [85, 78, 84, 73, 76] = 2 from by decide]; exact own_w22 s w hs h22
  by_cases h23 : ups s = [65, 71, 65, 73, 78]
  · rw [h23, show ownC [65, 71, 65, 73, 78] = 2 from by decide]; exact own_w23 s w hs h23
  by_cases h24 : ups s = [87, 72, 73, 76, 69]
  · rw [h24, show ownC [87, 72, 73, 76, 69] = 2 from by decide]; exact own_w24 s w hs h24
  by_cases h25 : ups s = [82, 69, 80, 69, 65, 84]
  · rw [h25, show ownC [82, 69, 80, 69, 65, 84] = 2 from by decide]; exact own_w25 s w hs h25
  by_cases h26 : ups s = [68, 79]
  · rw [h26, show ownC [68, 79] = 2 from by decide]; exact own_w26 s w hs h26
  by_cases h27 : ups s = [76, 79, 79, 80]
  · rw [h27, show ownC [76, 79, 79, 80] = 2 from by decide]; exact own_w27 s w hs h27
  by_cases h28 : ups s = [43, 76, 79, 79, 80]
  · rw [h28, show ownC [43, 76, 79, 79, 80] = 2 from by decide]; exact own_w28 s w hs h28
  by_cases h29 : ups s = [40]
  · rw [h29, show ownC [40] = 3 from by decide]; exact own_w29 s w hs h29
  by_cases h30 : ups s = [92]
  · rw [h30, show ownC [92] = 3 from by decide]; exact own_w30 s w hs h30
  by_cases h31 : ups s = [46, 34]
  · rw [h31, show ownC [46, 34] = 3 from by decide]; exact own_w31 s w hs h31
  by_cases h32 : ups s = [67, 72, 65, 82]
  · rw [h32, show ownC [67, 72, 65, 82] = 3 from by decide]; exact own_w32 s w hs h32
  by_cases h33 : ups s = [72, 69, 88]
  · rw [h33, show ownC [72, 69, 88] = 3 from by decide]; exact own_w33 s w hs h33
  by_cases h34 : ups s = [68, 69, 67, 73, 77, 65, 76]
  · rw [h34, show ownC [68, 69, 67, 73, 77, 65, 76] = 3 from by decide]; exact own_w34 s w hs h34
  have e : ownC (ups s) = 0 := by
    unfold ownC idleL busyL bothL oColon oConstant oVariable oCreate oComma oAllot oHere oTick oImmediate oForget oSemi oBtick oExit oI oJ oUnloop oRecurse oLiteral oIf oElse oThen oBegin oUntil oAgain oWhile oRepeat oDo oLoop oPlus oParen oBack oSay oChar oHex oDecimal
    simp [h0, h1, h2, h3, h4, h5, h6, h7, h8, h9, h10, h11, h12, h13, h14, h15, h16, h17, h18, h19, h20, h21, h22, h23, h24, h25, h26, h27, h28, h29, h30, h31, h32, h33, h34]
  rw [e]
  exact own_none s w hs h0 h1 h2 h3 h4 h5 h6 h7 h8 h9 h10 h11 h12 h13 h14 h15 h16 h17 h18 h19 h20 h21 h22 h23 h24 h25 h26 h27 h28 h29 h30 h31 h32 h33 h34
end Go.Proofs.YtompdfpjmdnhoabGreatDoor.Ou
namespace Go.Proofs.YtompdfpjmdnhoabGreatDoor.Ou
open Go.RowKit Go.Proofs.YtompdfpjmdnhoabGreatDoor.Rs Go.Proofs.YtompdfpjmdnhoabGreatDoor.Src Go.Proofs.YtompdfpjmdnhoabGreatDoor.Ft
theorem defining_any (B ob : Nat) (L : Lo) (o : OS) (w : World) (H : OIs w B ob L o) (W : Wo o) (hB : B ≤ w.heap.size) (hl : o.laid.length ≤ 1000000000) (hdn : o.draft = none) (u : List UInt8) (hu : ownC u = 1) :
    Calls Tryz.prog 58 #[.pointer (some ⟨ob, 0, none⟩), .string ⟨u.toArray⟩] w (Did w B ob L o (defining o u)) := by
  have hm : u = oColon ∨ u = oConstant ∨ u = oVariable ∨ u = oCreate ∨ u = oComma ∨ u = oAllot ∨ u = oHere ∨ u = oTick ∨ u = oImmediate ∨ u = oForget := by
    unfold ownC at hu
    split at hu
    · rename_i h
      simpa [idleL] using h
    split at hu
    · omega
    split at hu
    · omega
    · omega
  rcases hm with rfl | rfl | rfl | rfl | rfl | rfl | rfl | rfl | rfl | rfl
  · exact def_colon B ob L o w H W hB hl hdn
  · exact def_constant B ob L o w H W hB hl
  · exact def_variable B ob L o w H W hB hl
  · exact def_create B ob L o w H W hB hl
  · exact def_comma B ob L o w H W hB hl
  · exact def_allot B ob L o w H W hB
  · exact def_here B ob L o w H W hB
  · exact def_tick B ob L o w H W hB
  · exact def_immediate B ob L o w H W hB
  · exact def_forget B ob L o w H W hB hl
theorem ownC_cases (u : List UInt8) : ownC u = 0 ∨ ownC u = 1 ∨ ownC u = 2 ∨ ownC u = 3 := by
  unfold ownC
  split
  · exact .inr (.inl rfl)
  split
  · exact .inr (.inr (.inl rfl))
  split
  · exact .inr (.inr (.inr rfl))
  · exact .inl rfl
def deedC (k : Int) (u : List UInt8) : Array Value := #[.int .i64 k, .string ⟨u.toArray⟩]
set_option maxHeartbeats 4000000 in
set_option maxRecDepth 100000 in
theorem ownd_any (B ob : Nat) (L : Lo) (o : OS) (w : World) (H : OIs w B ob L o) (W : Wo o) (hB : B ≤ w.heap.size) (hl : o.laid.length ≤ 1000000000) (ho : ∀ d, o.draft = some d → d.s.O.length < 4900) (u : List UInt8) (k : Nat) (kz : Int) (hkz : kz = k) (h : ownC u = k) (hu : k ≠ 0) :
    Calls Tryz.prog 42 #[.pointer (some ⟨ob, 0, none⟩), .agg (deedC kz u)] w (Did w B ob L o (own o u k)) := by
  rcases (show k = 1 ∨ k = 2 ∨ k = 3 by have := ownC_cases u; omega) with rfl | rfl | rfl
  · obtain rfl : kz = 1 := hkz
    have T1 := Turns.lone H.held (.cells (deedC 1 u) 80)
    have H1 := H.alloc (.cells (deedC 1 u) 80)
    have hB1 : B ≤ (w.alloc (.cells (deedC 1 u) 80)).heap.size := Nat.le_trans hB T1.size
    have HD := Lib.hid (Blk.new w 80 (deedC 1 u))
    have HN := Lib.hid (fun q => (⟨L, T1.drewN q, H.lok⟩ : Nx w B ob L o o ((w.alloc (.cells (deedC 1 u) 80)).drewN q)))
    have HE : Hid (own o u 1 = if (1 : Nat) = 3 then always o u else if ((1 : Nat) = 2) ≠ (o.draft.isSome = true) then (-14, o) else if (1 : Nat) = 2 then compile o u else defining o u) := rfl
    unfold deedC at *
    have x0 := HD.out.cell 0
    have x1 := HD.out.cell 1
    simp only [List.getElem?_toArray, List.getElem?_cons_zero, List.getElem?_cons_succ] at x0 x1
    rcases (show o.draft = none ∨ ∃ d, o.draft = some d by cases o.draft with | none => exact .inl rfl | some d => exact .inr ⟨d, rfl⟩) with hd | ⟨d, hd⟩
    · have c14 := draft_none H1 hd
      have HE2 : Hid (own o u 1 = defining o u) := by
        show _ = _
        rw [HE.out, if_neg (by decide), if_neg (by rw [hd]; simp), if_neg (by decide)]
      have HC := Lib.hid (fun q => (defining_any B ob L o _ (H1.drewN q) W hB1 hl hd u h).mono fun _ _ k => Did.pre (T1.drewN q) k)
      clear H W hB hl ho hd h hu T1 H1 hB1 HN HE
      go_enter Tryz.func42, Tryz.ntmps42
      go_wp2
      go_quiet (fail)
      go_wp2_with fail
      refine (HC.out _).mono ?_
      rintro e w2 ⟨rfl, N⟩
      have NN := Lib.hid N
      clear N
      go_wp2_with fail
      go_ret
      rw [HE2.out]
      exact ⟨rfl, NN.out⟩
    · have c14 := draft_cell H1 hd
      have HE2 : Hid (own o u 1 = (-14, o)) := by
        show _ = _
        rw [HE.out, if_neg (by decide), if_pos (by rw [hd]; simp)]
      clear H W hB hl ho hd h hu T1 H1 hB1 HE
      go_enter Tryz.func42, Tryz.ntmps42
      go_wp2
      go_quiet (fail)
      go_wp2_with fail
      go_ret
      rw [HE2.out]
      exact ⟨rfl, HN.out _⟩
  · obtain rfl : kz = 2 := hkz
    have T1 := Turns.lone H.held (.cells (deedC 2 u) 80)
    have H1 := H.alloc (.cells (deedC 2 u) 80)
    have hB1 : B ≤ (w.alloc (.cells (deedC 2 u) 80)).heap.size := Nat.le_trans hB T1.size
    have HD := Lib.hid (Blk.new w 80 (deedC 2 u))
    have HN := Lib.hid (fun q => (⟨L, T1.drewN q, H.lok⟩ : Nx w B ob L o o ((w.alloc (.cells (deedC 2 u) 80)).drewN q)))
    have HE : Hid (own o u 2 = if (2 : Nat) = 3 then always o u else if ((2 : Nat) = 2) ≠ (o.draft.isSome = true) then (-14, o) else if (2 : Nat) = 2 then compile o u else defining o u) := rfl
    unfold deedC at *
    have x0 := HD.out.cell 0
    have x1 := HD.out.cell 1
    simp only [List.getElem?_toArray, List.getElem?_cons_zero, List.getElem?_cons_succ] at x0 x1
    rcases (show o.draft = none ∨ ∃ d, o.draft = some d by cases o.draft with | none => exact .inl rfl | some d => exact .inr ⟨d, rfl⟩) with hd | ⟨d, hd⟩
    · have c14 := draft_none H1 hd
      have HE2 : Hid (own o u 2 = (-14, o)) := by
        show _ = _
        rw [HE.out, if_neg (by decide), if_pos (by rw [hd]; simp)]
      clear H W hB hl ho hd h hu T1 H1 hB1 HE
      go_enter Tryz.func42, Tryz.ntmps42
      go_wp2
      go_quiet (fail)
      go_wp2_with fail
      go_ret
      rw [HE2.out]
      exact ⟨rfl, HN.out _⟩
    · have c14 := draft_cell H1 hd
      have HE2 : Hid (own o u 2 = compile o u) := by
        show _ = _
        rw [HE.out, if_neg (by decide), if_neg (by rw [hd]; simp), if_pos rfl]
      have HC := Lib.hid (fun q => (compile_any B ob L o _ (H1.drewN q) W hB1 d hd (ho d hd) hl u h).mono fun _ _ k => Did.pre (T1.drewN q) k)
      clear H W hB hl ho hd h hu T1 H1 hB1 HN HE
      go_enter Tryz.func42, Tryz.ntmps42
      go_wp2
      go_quiet (fail)
      go_wp2_with fail
      refine (HC.out _).mono ?_
      rintro e w2 ⟨rfl, N⟩
      have NN := Lib.hid N
      clear N
      go_wp2_with fail
      go_ret
      rw [HE2.out]
      exact ⟨rfl, NN.out⟩
  · obtain rfl : kz = 3 := hkz
    have T1 := Turns.lone H.held (.cells (deedC 3 u) 80)
    have H1 := H.alloc (.cells (deedC 3 u) 80)
    have hB1 : B ≤ (w.alloc (.cells (deedC 3 u) 80)).heap.size := Nat.le_trans hB T1.size
    have HD := Lib.hid (Blk.new w 80 (deedC 3 u))
    have HN := Lib.hid (fun q => (⟨L, T1.drewN q, H.lok⟩ : Nx w B ob L o o ((w.alloc (.cells (deedC 3 u) 80)).drewN q)))
    have HE : Hid (own o u 3 = if (3 : Nat) = 3 then always o u else if ((3 : Nat) = 2) ≠ (o.draft.isSome = true) then (-14, o) else if (3 : Nat) = 2 then compile o u else defining o u) := rfl
    unfold deedC at *
    have x0 := HD.out.cell 0
    have x1 := HD.out.cell 1
    simp only [List.getElem?_toArray, List.getElem?_cons_zero, List.getElem?_cons_succ] at x0 x1
    have HE2 : Hid (own o u 3 = always o u) := by
      show _ = _
      rw [HE.out, if_pos rfl]
    have HC := Lib.hid ((always_any B ob L o _ H1 W hB1 u h).mono fun _ _ k => Did.pre T1 k)
    clear H W hB hl ho h hu T1 H1 hB1 HN HE
    go_enter Tryz.func42, Tryz.ntmps42
    go_wp2_with fail
    refine HC.out.mono ?_
    rintro e w2 ⟨rfl, N⟩
    have NN := Lib.hid N
    clear N
    go_wp2_with fail
    go_ret
    rw [HE2.out]
    exact ⟨rfl, NN.out⟩
structure Env (w0 : World) (B : Nat) (w : World) : Prop where
  hg : HandleIs w0
  tb : Dg.Tabs w0
  lo : w0.heap.size ≤ B
  below : Below w0.heap.size w0 w
  hB : B ≤ w.heap.size
theorem Env.turns {w0 w w' : World} {B : Nat} {R R' : List Res} (E : Env w0 B w) (H : Held w B R) (N : Turns w B R R' w') : Env w0 B w' :=
  ⟨E.hg, E.tb, E.lo, E.below.trans ((N.below E.hB H).mono E.lo), Nat.le_trans E.hB N.size⟩
theorem Env.tabs {w0 w : World} {B : Nat} (E : Env w0 B w) : Dg.Tabs w := E.tb.below E.below
set_option maxHeartbeats 4000000 in
set_option maxRecDepth 100000 in
theorem word_any (w0 : World) (B ob : Nat) (L : Lo) (o : OS) (w : World) (E : Env w0 B w) (H : OIs w B ob L o) (W : Wo o) (hl : o.laid.length ≤ 1000000000) (ho : ∀ d, o.draft = some d → d.s.O.length < 4900) (n : ByteArray) (hn : n.size ≤ 600) :
    Calls Tryz.prog 31 #[.pointer (some ⟨ob, 0, none⟩), .string n] w (Did w B ob L o (word o n)) := by
  have c10 := words_cell H
  have hn5 : n.size ≤ 100000 := Nat.le_trans hn (by decide)
  have HF := Lib.hid (find_any L.wb B L.wv o.words n w H.words hn5 (Nat.le_trans W.wlen (by decide)) W.names)
  have HH := Lib.hid H
  have HW := Lib.hid W
  have HEv := Lib.hid E
  have HL := Lib.hid hl
  have HO := Lib.hid ho
  have HN5 := Lib.hid hn5
  generalize hT : word o n = T
  have HE : Hid ((match find o.words n with
    | some x => found o x
    | none => if ownC (ups n) ≠ 0 then own o (ups n) (ownC (ups n)) else if (Dg.getV n.data.toList o.base).2 = false then (-13, o) else literal o (Dg.getV n.data.toList o.base).1) = T) := hT
  clear hT H W E hl ho hn hn5
  generalize find o.words n = f at *
  cases f with
  | some x =>
    have HE2 : Hid (found o x = T) := HE.out
    change Hid (Calls _ _ _ w fun e w' => e = .returned (.tuple #[.agg (wdC x), .bool true]) ∧ Below w.heap.size w w') at HF
    unfold wdC at HF
    go_enter Tryz.func31, Tryz.ntmps31
    go_wp2_with fail
    refine HF.out.mono ?_
    rintro e w2 ⟨rfl, k2⟩
    have N2 := Turns.of_below HH.out.held k2 (Nat.le_refl _)
    have N3 := Lib.hid (N2.trans (Turns.lone N2.held (.cells (wdC x) 62)))
    have E3 := Lib.hid (HEv.out.turns HH.out.held N3.out)
    have HX := Lib.hid (Blk.new w2 62 (wdC x))
    have HC := Lib.hid (found_any B ob L o _ ⟨N3.out.held, HH.out.lok⟩ HW.out E3.out.hB x)
    unfold wdC at *
    have x0 := HX.out.cell 0
    have x1 := HX.out.cell 1
    have x2 := HX.out.cell 2
    have x3 := HX.out.cell 3
    simp only [List.getElem?_toArray, List.getElem?_cons_zero, List.getElem?_cons_succ] at x0 x1 x2 x3
    clear k2 N2 HF
    go_wp2_with fail
    refine HC.out.mono ?_
    rintro e w4 ⟨rfl, N⟩
    have NN := Lib.hid (Nx.step N3.out N)
    clear N
    go_wp2_with fail
    go_ret
    rw [← HE2.out]
    exact ⟨rfl, NN.out⟩
  | none =>
    have HE2 : Hid ((if ownC (ups n) ≠ 0 then own o (ups n) (ownC (ups n)) else if (Dg.getV n.data.toList o.base).2 = false then (-13, o) else literal o (Dg.getV n.data.toList o.base).1) = T) := HE.out
    change Hid (Calls _ _ _ w fun e w' => e = .returned (.tuple #[.agg (wdC wd0), .bool false]) ∧ Below w.heap.size w w') at HF
    have ez : wdC wd0 = #[.string ⟨#[]⟩, .int .i64 0, .int .i64 0, .bool false] := rfl
    rw [ez] at HF
    go_enter Tryz.func31, Tryz.ntmps31
    go_wp2_with fail
    refine HF.out.mono ?_
    rintro e w2 ⟨rfl, k2⟩
    have N2 := Turns.of_below HH.out.held k2 (Nat.le_refl _)
    have N3 := Lib.hid (N2.trans (Turns.lone N2.held (.cells #[.string ⟨#[]⟩, .int .i64 0, .int .i64 0, .bool false] 62)))
    have HOw := Lib.hid (own_any n (w2.alloc (.cells #[.string ⟨#[]⟩, .int .i64 0, .int .i64 0, .bool false] 62)) HN5.out)
    unfold OwnPost OwnIs at HOw
    clear k2 N2 HF HE c10
    by_cases hu : ownC (ups n) ≠ 0
    · have HE3 := Lib.hid ((if_pos hu).symm.trans HE2.out)
      have HU := Lib.hid hu
      rw [if_neg (by simpa using hu), show decide (ownC (ups n) ≠ 0) = true from by simpa using hu] at HOw
      clear HE2 hu
      go_wp2_with fail
      refine HOw.out.mono ?_
      rintro e w4 ⟨rfl, k4⟩
      have M4 := Turns.of_below N3.out.held k4 (Nat.le_refl _)
      have N4 := Lib.hid (N3.out.trans (M4.trans (Turns.lone M4.held (.cells (deedC (ownC (ups n)) (ups n)) 80))))
      have E4 := Lib.hid (HEv.out.turns HH.out.held N4.out)
      have HD := Lib.hid (Blk.new w4 80 (deedC (ownC (ups n)) (ups n)))
      have HC := Lib.hid (ownd_any B ob L o _ ⟨N4.out.held, HH.out.lok⟩ HW.out E4.out.hB HL.out HO.out (ups n) (ownC (ups n)) _ rfl rfl HU.out)
      unfold deedC at *
      have x0 := HD.out.cell 0
      have x1 := HD.out.cell 1
      simp only [List.getElem?_toArray, List.getElem?_cons_zero, List.getElem?_cons_succ] at x0 x1
      clear k4 M4 HOw N3
      go_wp2_with fail
      refine HC.out.mono ?_
      rintro e w5 ⟨rfl, N⟩
      have NN := Lib.hid (Nx.step N4.out N)
      clear N
      go_wp2_with fail
      go_ret
      rw [← HE3.out]
      exact ⟨rfl, NN.out⟩
    · have hu0 : ownC (ups n) = 0 := by simpa using hu
      have HE3 := Lib.hid ((if_neg hu).symm.trans HE2.out)
      rw [hu0, if_pos rfl, show decide ((0 : Nat) ≠ 0) = false from rfl] at HOw
      clear HE2 hu hu0
      go_wp2_with fail
      refine HOw.out.mono ?_
      rintro e w4 ⟨rfl, k4⟩
      have M4 := Turns.of_below N3.out.held k4 (Nat.le_refl _)
      have N4 := Lib.hid (N3.out.trans (M4.trans (Turns.lone M4.held (.cells #[.int .i64 0, .string ⟨#[]⟩] 80))))
      have E4 := Lib.hid (HEv.out.turns HH.out.held N4.out)
      have hI4 : OIs (w4.alloc (.cells #[.int .i64 0, .string ⟨#[]⟩] 80)) B ob L o := ⟨N4.out.held, HH.out.lok⟩
      have c12 : (w4.alloc (.cells #[.int .i64 0, .string ⟨#[]⟩] 80)).cell? ⟨ob, 12, none⟩ = some (.int .i64 o.base) := hI4.cell 12
      have HI4 := Lib.hid hI4
      have HG := Lib.hid (Dg.get_any n.data.toList o.base HN5.out _ E4.out.tabs)
      have en : (⟨n.data.toList.toArray⟩ : ByteArray) = n := by rw [Array.toArray_toList]
      rw [en] at HG
      clear k4 M4 HOw N3 hI4 en
      generalize Dg.getV n.data.toList o.base = g at *
      obtain ⟨v, b⟩ := g
      go_wp2_with fail
      refine HG.out.mono ?_
      rintro e w5 ⟨rfl, k5⟩
      have N5 := Lib.hid (N4.out.trans (Turns.of_below HI4.out.held k5 (Nat.le_refl _)))
      have E5 := Lib.hid (HEv.out.turns HH.out.held N5.out)
      have HC := Lib.hid (literal_any B ob L o w5 ⟨N5.out.held, HH.out.lok⟩ E5.out.hB v HW.out.m.ns)
      clear k5 HG c12
      cases b with
      | false =>
        have HE4 : Hid ((-13, o) = T) := HE3.out
        go_wp2_with fail
        go_ret
        rw [← HE4.out]
        exact ⟨rfl, L, N5.out, HH.out.lok⟩
      | true =>
        have HE4 : Hid (literal o v = T) := HE3.out
        go_wp2_with fail
        refine HC.out.mono ?_
        rintro e w6 ⟨rfl, N⟩
        have NN := Lib.hid (Nx.step N5.out N)
        clear N
        go_wp2_with fail
        go_ret
        rw [← HE4.out]
        exact ⟨rfl, NN.out⟩
end Go.Proofs.YtompdfpjmdnhoabGreatDoor.Ou
namespace Go.Proofs.YtompdfpjmdnhoabGreatDoor.Ou
open Go.RowKit Go.Proofs.YtompdfpjmdnhoabGreatDoor.Rs Go.Proofs.YtompdfpjmdnhoabGreatDoor.Src Go.Proofs.YtompdfpjmdnhoabGreatDoor.Ft
theorem cells13 (L : Lo) (o : OS) : (oCells L o).setIfInBounds 13 (.pointer none) = oCells L { o with line := none } := by simp [oCells, ptrIf]
theorem line_off {w : World} {B ob : Nat} {L : Lo} {o : OS} (H : OIs w B ob L o) : Nx w B ob L o { o with line := none } (w.setCell ⟨ob, 13, none⟩ (.pointer none)) := by
  have N := Turns.set (R := (oRes ob L o).tail) (b := ob) (T := 47) (vs := oCells L o) H.held 13 (.pointer none)
  rw [cells13] at N
  refine ⟨L, N.sub ?_, ⟨(fun d e => by cases e), H.lok.draft, H.lok.pos⟩⟩
  refine List.Sublist.cons_cons _ ?_
  show List.Sublist (_ ++ ([] ++ draftRes L o.draft)) (_ ++ (lineRes L o.line ++ draftRes L o.draft))
  exact (List.Sublist.refl _).append ((List.nil_sublist _).append (List.Sublist.refl _))
theorem goW_step (n : Nat) (o : OS) (h : fuelW o ≤ n) : goW n o = if (read o).2.1 = false then (0, false, { (read o).2.2 with line := none }) else if (word (read o).2.2 (read o).1).1 ≠ 0 then ((word (read o).2.2 (read o).1).1, false, fault (word (read o).2.2 (read o).1).2) else if (word (read o).2.2 (read o).1).2.runs = true then (0, true, (word (read o).2.2 (read o).1).2) else goW (n - 1) (word (read o).2.2 (read o).1).2 := by
  cases n with
  | zero =>
    have hl : o.line = none := by
      cases hl : o.line with
      | none => rfl
      | some l =>
        have e : fuelW o = l.length + 1 := by unfold fuelW; rw [hl]
        rw [e] at h
        exact absurd h (Nat.not_succ_le_zero _)
    have e : read o = (ByteArray.empty, false, o) := by unfold read; rw [hl]
    rw [e, if_pos rfl]
    show (0, false, o) = (0, false, { o with line := none })
    rw [← hl]
  | succ n => rfl
def GoPost (w : World) (B ob : Nat) (L : Lo) (o : OS) (r : Int × Bool × OS) (e : Ending) (w' : World) : Prop := e = .returned (.tuple #[.int .i64 r.1, .bool r.2.1]) ∧ Nx w B ob L o r.2.2 w'
set_option maxHeartbeats 4000000 in
set_option maxRecDepth 100000 in
theorem go_any (w0 : World) (k : Nat) (B ob : Nat) (L : Lo) (o : OS) (w : World) (E : Env w0 B w) (H : OIs w B ob L o) (W : Wo o) (K : Lim k o) :
    Calls Tryz.prog 20 #[.pointer (some ⟨ob, 0, none⟩)] w (GoPost w B ob L o (go o)) := by
  have HH := Lib.hid H
  have HE := Lib.hid E
  cases hl : o.line with
  | none =>
    have c13 := line_none H hl
    have e : go o = (0, false, o) := by unfold go; rw [hl]; rfl
    have N := Lib.hid H.nx
    rw [e]
    clear H W K E hl e
    go_enter Tryz.func20, Tryz.ntmps20
    go_wp2_with fail
    go_ret2
    exact ⟨rfl, N.out⟩
  | some l =>
    have c13 := line_cell H hl
    have c15 : w.cell? ⟨ob, 15, none⟩ = some (.bool o.runs) := H.cell 15
    have c8 : w.cell? ⟨ob, 8, none⟩ = some (.int .i64 o.m.status) := H.cell 8
    have c9 : w.cell? ⟨ob, 9, none⟩ = some (.int .i64 o.m.code) := H.cell 9
    have f15 := H.frozen 15
    have HF := Lib.hid (fault_any B ob L o w H o.m.code)
    have N := Lib.hid H.nx
    have HR := Lib.hid (o_runs H false)
    have HW := Lib.hid W
    have HK := Lib.hid K
    generalize hT : go o = T
    have hT1 : (if o.runs = true then (if o.m.status = 2 then (o.m.code, false, fault o) else if o.m.status = 0 then (0, true, o) else goW (fuelW o) { o with runs := false }) else goW (fuelW o) o) = T := by
      rw [← hT]; unfold go; rw [if_neg (show ¬ (o.line.isSome = false) from by rw [hl]; simp)]
    have HT := Lib.hid hT1
    clear H W K E hl hT hT1
    by_cases hr : o.runs = true
    · have HT1 := Lib.hid ((if_pos hr).symm.trans HT.out)
      rw [hr] at c15
      by_cases h2 : o.m.status = 2
      · have HT2 := Lib.hid ((if_pos h2).symm.trans HT1.out)
        rw [h2] at c8
        go_enter Tryz.func20, Tryz.ntmps20
        go_wp2_with fail
        refine HF.out.mono ?_
        rintro e w2 ⟨rfl, N2⟩
        have NN := Lib.hid N2
        clear N2
        go_wp2_with fail
        go_ret2
        rw [← HT2.out]
        exact ⟨rfl, NN.out⟩
      · have HT2 := Lib.hid ((if_neg h2).symm.trans HT1.out)
        have h2d : decide (o.m.status = 2) = false := by simpa using h2
        by_cases h0 : o.m.status = 0
        · have HT3 : Hid ((0, true, o) = T) := (if_pos h0).symm.trans HT2.out
          rw [h0] at c8
          clear h2d h2
          go_enter Tryz.func20, Tryz.ntmps20
          go_wp2_with fail
          go_ret2
          rw [← HT3.out]
          exact ⟨rfl, N.out⟩
        · have HGs : Hid (goW (fuelW o) { o with runs := false } = T) := (if_neg h0).symm.trans HT2.out
          have h0d : decide (o.m.status = 0) = false := by simpa using h0
          have H2b : Hid ((o.m.status == 2) = false) := by show _ = _; simpa using h2
          have H0b : Hid ((o.m.status == 0) = false) := by show _ = _; simpa using h0
          obtain ⟨Ls, Ts, Ks⟩ := HR.out
          have HTs := Lib.hid Ts
          have HKs := Lib.hid Ks
          have HWs : Hid (Wo { o with runs := false }) := HW.out.runs' false
          have HMs := Lib.hid (lim_runs HK.out false)
          have HFs : Hid (fuelW { o with runs := false } ≤ fuelW o) := Nat.le_refl (fuelW o)
          clear Ts Ks HR N HF HT HT1 HT2
          go_enter Tryz.func20, Tryz.ntmps20
          go_wp2_with fail
          rw [H2b.out, H0b.out]
          clear c13 c15 c8 c9 f15
          go_loopg [4] (fuelW o + 1) (fun gg v wr => ∃ (n : Nat) (oj : OS) (Lj : Lo), gg = n + 1 ∧ Hid (Turns w B (oRes ob L o) (oRes ob Lj oj) wr) ∧ Hid (Lok Lj oj) ∧ Hid (Wo oj) ∧ Hid (Lim k oj) ∧ Hid (fuelW oj ≤ n) ∧ Hid (goW n oj = T))
          case atStart => exact ⟨fuelW o, _, Ls, rfl, HTs, HKs, HWs, HMs, HFs, HGs⟩
          case round =>
            obtain ⟨n, oj, Lj, hg, HTr, HKr, HWr, HMr, HFr, HGr⟩ := hrel
            have Hg := Lib.hid hg
            clear hg HTs HKs HWs HMs HFs HGs
            have HRd := Lib.hid (read_any B ob Lj oj wr ⟨HTr.out.held, HKr.out⟩)
            unfold ReadPost at HRd
            have HS := Lib.hid ((goW_step n oj HFr.out).symm.trans HGr.out)
            have HSt := Lib.hid (fun h => lim_step HWr.out HMr.out h)
            have HRk := Lib.hid (read_kept oj HWr.out)
            generalize read oj = r at *
            obtain ⟨nm, b, o2⟩ := r
            dsimp only at HRd HS HSt HRk
            go_wp2_with fail
            refine HRd.out.mono ?_
            rintro e w2 ⟨rfl, L2, N2, K2, _, _⟩
            have HT2 := Lib.hid (HTr.out.trans N2)
            have HK2 := Lib.hid K2
            have HI2 : Hid (OIs w2 B ob L2 o2) := ⟨N2.held, K2⟩
            have HE2 := Lib.hid (HE.out.turns HH.out.held HT2.out)
            clear N2 K2 HRd
            cases b with
            | false =>
              have HS2 : Hid ((0, false, { o2 with line := none }) = T) := HS.out
              have c13 : w2.cell? ⟨ob, 13, none⟩ = some (ptrIf L2.lb o2.line.isSome) := HI2.out.cell 13
              have f13 := HI2.out.frozen 13
              have HLo := Lib.hid (Nx.step HT2.out (line_off HI2.out))
              go_wp2_with fail
              go_ret2
              rw [← HS2.out]
              exact ⟨rfl, HLo.out⟩
            | true =>
              obtain ⟨hW2, hK2, hW3, hK3, hf3⟩ := HSt.out rfl
              have HWd := Lib.hid (word_any w0 B ob L2 o2 w2 HE2.out HI2.out hW2 hK2.laid' hK2.opn' nm (by obtain ⟨_, _, _, _, _, h, _⟩ := HRk.out.2 rfl; exact h))
              have HS2 : Hid ((if (word o2 nm).1 ≠ 0 then ((word o2 nm).1, false, fault (word o2 nm).2) else if (word o2 nm).2.runs = true then (0, true, (word o2 nm).2) else goW (n - 1) (word o2 nm).2) = T) := HS.out
              have HW3 := Lib.hid hW3
              have HK3 := Lib.hid hK3
              have HF3 := Lib.hid hf3
              clear hW2 hK2 hW3 hK3 hf3 HS HSt HRk
              generalize word o2 nm = q at *
              obtain ⟨c, o3⟩ := q
              dsimp only at HWd HS2 HW3 HK3 HF3
              go_wp2_with fail
              refine HWd.out.mono ?_
              rintro e w3 ⟨rfl, L3, N3, K3⟩
              have HT3 := Lib.hid (HT2.out.trans N3)
              have HL3 := Lib.hid K3
              have HI3 : Hid (OIs w3 B ob L3 o3) := ⟨N3.held, K3⟩
              clear N3 K3 HWd
              by_cases hc : c = 0
              · subst hc
                have HS3 := Lib.hid ((if_neg (show ¬ ((0 : Int) ≠ 0) from by simp)).symm.trans HS2.out)
                have c15 : w3.cell? ⟨ob, 15, none⟩ = some (.bool o3.runs) := HI3.out.cell 15
                clear HS2
                by_cases hr : o3.runs = true
                · have HS4 : Hid ((0, true, o3) = T) := (if_pos hr).symm.trans HS3.out
                  rw [hr] at c15
                  go_wp2_with fail
                  go_ret2
                  rw [← HS4.out]
                  exact ⟨rfl, L3, HT3.out, HL3.out⟩
                · have HS4 : Hid (goW (n - 1) o3 = T) := (if_neg hr).symm.trans HS3.out
                  rw [show o3.runs = false from by simpa using hr] at c15
                  have HN1 : Hid (0 < n) := Nat.lt_of_lt_of_le (Nat.lt_of_lt_of_le (Nat.succ_pos _) HF3.out) HFr.out
                  go_wp2_with fail
                  go_roundg n
                  case rel => exact ⟨n - 1, o3, L3, (Nat.sub_add_cancel HN1.out).symm, HT3, HL3, HW3, HK3, Nat.le_sub_one_of_lt (Nat.lt_of_lt_of_le HF3.out HFr.out), HS4⟩
                  case measure => rw [Hg.out]; exact Nat.lt_succ_self _
              · have HS3 := Lib.hid ((if_pos hc).symm.trans HS2.out)
                have hcd : decide (c = 0) = false := by simpa using hc
                have hcb : (c == 0) = false := by simpa using hc
                have HFa := Lib.hid (fault_any B ob L3 o3 w3 HI3.out c)
                go_wp2_with fail
                refine HFa.out.mono ?_
                rintro e w4 ⟨rfl, N4⟩
                have NN := Lib.hid (Nx.step HT3.out N4)
                clear N4
                go_wp2_with fail
                go_ret2
                rw [← HS3.out]
                exact ⟨rfl, NN.out⟩
    · have HGs : Hid (goW (fuelW o) o = T) := (if_neg hr).symm.trans HT.out
      rw [show o.runs = false from by simpa using hr] at c15
      obtain ⟨Ls, Ts, Ks⟩ := N.out
      have HTs := Lib.hid Ts
      have HKs := Lib.hid Ks
      have HWs := HW
      have HMs := HK
      have HFs : Hid (fuelW o ≤ fuelW o) := Nat.le_refl (fuelW o)
      clear Ts Ks HR N HF HT
      go_enter Tryz.func20, Tryz.ntmps20
      go_wp2_with fail
      clear c13 c15 c8 c9 f15
      go_loopg [4] (fuelW o + 1) (fun gg v wr => ∃ (n : Nat) (oj : OS) (Lj : Lo), gg = n + 1 ∧ Hid (Turns w B (oRes ob L o) (oRes ob Lj oj) wr) ∧ Hid (Lok Lj oj) ∧ Hid (Wo oj) ∧ Hid (Lim k oj) ∧ Hid (fuelW oj ≤ n) ∧ Hid (goW n oj = T))
      case atStart => exact ⟨fuelW o, _, Ls, rfl, HTs, HKs, HWs, HMs, HFs, HGs⟩
      case round =>
        obtain ⟨n, oj, Lj, hg, HTr, HKr, HWr, HMr, HFr, HGr⟩ := hrel
        have Hg := Lib.hid hg
        clear hg HTs HKs HWs HMs HFs HGs
        have HRd := Lib.hid (read_any B ob Lj oj wr ⟨HTr.out.held, HKr.out⟩)
        unfold ReadPost at HRd
        have HS := Lib.hid ((goW_step n oj HFr.out).symm.trans HGr.out)
        have HSt := Lib.hid (fun h => lim_step HWr.out HMr.out h)
        have HRk := Lib.hid (read_kept oj HWr.out)
        generalize read oj = r at *
        obtain ⟨nm, b, o2⟩ := r
        dsimp only at HRd HS HSt HRk
        go_wp2_with fail
        refine HRd.out.mono ?_
        rintro e w2 ⟨rfl, L2, N2, K2, _, _⟩
        have HT2 := Lib.hid (HTr.out.trans N2)
        have HK2 := Lib.hid K2
        have HI2 : Hid (OIs w2 B ob L2 o2) := ⟨N2.held, K2⟩
        have HE2 := Lib.hid (HE.out.turns HH.out.held HT2.out)
        clear N2 K2 HRd
        cases b with
        | false =>
          have HS2 : Hid ((0, false, { o2 with line := none }) = T) := HS.out
          have c13 : w2.cell? ⟨ob, 13, none⟩ = some (ptrIf L2.lb o2.line.isSome) := HI2.out.cell 13
          have f13 := HI2.out.frozen 13
          have HLo := Lib.hid (Nx.step HT2.out (line_off HI2.out))
          go_wp2_with fail
          go_ret2
          rw [← HS2.out]
          exact ⟨rfl, HLo.out⟩
        | true =>
          obtain ⟨hW2, hK2, hW3, hK3, hf3⟩ := HSt.out rfl
          have HWd := Lib.hid (word_any w0 B ob L2 o2 w2 HE2.out HI2.out hW2 hK2.laid' hK2.opn' nm (by obtain ⟨_, _, _, _, _, h, _⟩ := HRk.out.2 rfl; exact h))
          have HS2 : Hid ((if (word o2 nm).1 ≠ 0 then ((word o2 nm).1, false, fault (word o2 nm).2) else if (word o2 nm).2.runs = true then (0, true, (word o2 nm).2) else goW (n - 1) (word o2 nm).2) = T) := HS.out
          have HW3 := Lib.hid hW3
          have HK3 := Lib.hid hK3
          have HF3 := Lib.hid hf3
          clear hW2 hK2 hW3 hK3 hf3 HS HSt HRk
          generalize word o2 nm = q at *
          obtain ⟨c, o3⟩ := q
          dsimp only at HWd HS2 HW3 HK3 HF3
          go_wp2_with fail
          refine HWd.out.mono ?_
          rintro e w3 ⟨rfl, L3, N3, K3⟩
          have HT3 := Lib.hid (HT2.out.trans N3)
          have HL3 := Lib.hid K3
          have HI3 : Hid (OIs w3 B ob L3 o3) := ⟨N3.held, K3⟩
          clear N3 K3 HWd
          by_cases hc : c = 0
          · subst hc
            have HS3 := Lib.hid ((if_neg (show ¬ ((0 : Int) ≠ 0) from by simp)).symm.trans HS2.out)
            have c15 : w3.cell? ⟨ob, 15, none⟩ = some (.bool o3.runs) := HI3.out.cell 15
            clear HS2
            by_cases hr : o3.runs = true
            · have HS4 : Hid ((0, true, o3) = T) := (if_pos hr).symm.trans HS3.out
              rw [hr] at c15
              go_wp2_with fail
              go_ret2
              rw [← HS4.out]
              exact ⟨rfl, L3, HT3.out, HL3.out⟩
            · have HS4 : Hid (goW (n - 1) o3 = T) := (if_neg hr).symm.trans HS3.out
              rw [show o3.runs = false from by simpa using hr] at c15
              have HN1 : Hid (0 < n) := Nat.lt_of_lt_of_le (Nat.lt_of_lt_of_le (Nat.succ_pos _) HF3.out) HFr.out
              go_wp2_with fail
              go_roundg n
              case rel => exact ⟨n - 1, o3, L3, (Nat.sub_add_cancel HN1.out).symm, HT3, HL3, HW3, HK3, Nat.le_sub_one_of_lt (Nat.lt_of_lt_of_le HF3.out HFr.out), HS4⟩
              case measure => rw [Hg.out]; exact Nat.lt_succ_self _
          · have HS3 := Lib.hid ((if_pos hc).symm.trans HS2.out)
            have hcd : decide (c = 0) = false := by simpa using hc
            have hcb : (c == 0) = false := by simpa using hc
            have HFa := Lib.hid (fault_any B ob L3 o3 w3 HI3.out c)
            go_wp2_with fail
            refine HFa.out.mono ?_
            rintro e w4 ⟨rfl, N4⟩
            have NN := Lib.hid (Nx.step HT3.out N4)
            clear N4
            go_wp2_with fail
            go_ret2
            rw [← HS3.out]
            exact ⟨rfl, NN.out⟩
end Go.Proofs.YtompdfpjmdnhoabGreatDoor.Ou
namespace Go.Proofs.YtompdfpjmdnhoabGreatDoor.Ou
open Go.RowKit Go.Proofs.YtompdfpjmdnhoabGreatDoor.Rs Go.Proofs.YtompdfpjmdnhoabGreatDoor.Src Go.Proofs.YtompdfpjmdnhoabGreatDoor.Ft
theorem cells_begin (L : Lo) (o : OS) (lb : Nat) (t : ByteArray) : ((oCells L o).setIfInBounds 13 (.pointer (some ⟨lb, 0, none⟩))).setIfInBounds 16 (.string ⟨#[]⟩) = oCells { L with lb := lb, ls := t, lk := 0 } (begin_ o t) := by
  simp [oCells, ptrIf, begin_]
  exact ⟨rfl, rfl⟩
theorem begin_on {w w1 : World} {B ob lb : Nat} {L : Lo} {o : OS} {t : ByteArray} (H : OIs w B ob L o) (hl : o.line = none) (hB : B ≤ w.heap.size) (K : SrcIs w1 lb t 0) (k : Below w.heap.size w w1) (hlb : w.heap.size ≤ lb) :
    Nx w B ob L o (begin_ o t) ((w1.setCell ⟨ob, 13, none⟩ (.pointer (some ⟨lb, 0, none⟩))).setCell ⟨ob, 16, none⟩ (.string ⟨#[]⟩)) := by
  have N0 : Turns w B [] [.st lb 76 #[.string t, .int .i64 (0 : Nat)]] w1 :=
    ⟨⟨fun r hr => by simp only [List.mem_singleton] at hr; subst hr; exact ⟨Nat.le_trans hB hlb, K.1⟩, by simp [blks, Res.blk]⟩, Touch.of_below k _, fun i hi => .inr (by simp [blks, Res.blk] at hi; omega)⟩
  have N1 := Turns.made H.held N0
  have e0 : oRes ob L o = oHead ob L o ++ draftRes L o.draft := by unfold oRes; rw [hl]; rfl
  rw [e0] at N1
  have p : ([Res.st lb 76 #[.string t, .int .i64 (0 : Nat)]] ++ (oHead ob L o ++ draftRes L o.draft)).Perm (oHead ob L o ++ ([Res.st lb 76 #[.string t, .int .i64 (0 : Nat)]] ++ draftRes L o.draft)) := by
    rw [← List.append_assoc, ← List.append_assoc]
    exact List.perm_append_comm.append (List.Perm.refl _)
  have N3 := N1.perm p
  have N4 := N3.trans (Turns.set (b := ob) (T := 47) (vs := oCells L o) N3.held 13 (.pointer (some ⟨lb, 0, none⟩)))
  have N5 := N4.trans (Turns.set N4.held 16 (.string ⟨#[]⟩))
  rw [cells_begin L o lb t] at N5
  refine ⟨{ L with lb := lb, ls := t, lk := 0 }, ?_, ⟨fun l e => ?_, H.lok.draft, H.lok.pos⟩⟩
  · have e1 : draftRes { L with lb := lb, ls := t, lk := 0 } o.draft = draftRes L o.draft := by cases o.draft <;> rfl
    have e2 : oRes ob { L with lb := lb, ls := t, lk := 0 } (begin_ o t) = .st ob 47 (oCells { L with lb := lb, ls := t, lk := 0 } (begin_ o t)) :: ((oHead ob L o).tail ++ ([.st lb 76 #[.string t, .int .i64 (0 : Nat)]] ++ draftRes L o.draft)) := by
      rw [← e1]
      rfl
    rw [e2, e0]
    exact N5
  · injection e with e
    subst e
    exact ⟨rfl, Nat.zero_le _, K.2.2⟩
set_option maxHeartbeats 4000000 in
set_option maxRecDepth 100000 in
theorem begin_any (B ob : Nat) (L : Lo) (o : OS) (w : World) (H : OIs w B ob L o) (hB : B ≤ w.heap.size) (hl : o.line = none) (t : ByteArray) (ht : t.size ≤ 600) :
    Calls Tryz.prog 19 #[.pointer (some ⟨ob, 0, none⟩), .string t] w fun e w' => e = .returned (.bool true) ∧ Nx w B ob L o (begin_ o t) w' := by
  have c13 := line_none H hl
  have c16 : w.cell? ⟨ob, 16, none⟩ = some (.string o.last) := H.cell 16
  have hti : ¬ (600 : Int) < (t.size : Int) := by omega
  have htd : decide (600 < t.size) = false := by simpa using ht
  have HS := Lib.hid (Src.new_any t (Nat.le_trans ht (by decide)) w)
  have HH := Lib.hid H
  have HL := Lib.hid hl
  have HB := Lib.hid hB
  clear H hl ht hB
  go_enter Tryz.func19, Tryz.ntmps19
  go_wp2_with fail
  refine HS.out.mono ?_
  rintro e w2 ⟨rfl, K2, k2, hsz⟩
  have HN := Lib.hid (begin_on HH.out HL.out HB.out K2 k2 (Nat.le_refl _))
  have hI2 : OIs w2 B ob L o := ⟨(Turns.of_below HH.out.held k2 (Nat.le_refl _)).held, HH.out.lok⟩
  have c13 := line_none hI2 HL.out
  have c16 : w2.cell? ⟨ob, 16, none⟩ = some (.string o.last) := hI2.cell 16
  have f13 := hI2.frozen 13
  have f16 := hI2.frozen 16
  clear K2 k2 hsz hI2 HS
  go_wp2_with fail
  go_ret
  exact ⟨rfl, HN.out⟩
end Go.Proofs.YtompdfpjmdnhoabGreatDoor.Ou
namespace Go.Proofs.YtompdfpjmdnhoabGreatDoor.Ou
open Go.RowKit Go.Proofs.YtompdfpjmdnhoabGreatDoor.Rs Go.Proofs.YtompdfpjmdnhoabGreatDoor.Src Go.Proofs.YtompdfpjmdnhoabGreatDoor.Ft
theorem Nx.trans {w w1 w2 : World} {B ob : Nat} {L : Lo} {o o1 o2 : OS} {L1 : Lo} (N : Turns w B (oRes ob L o) (oRes ob L1 o1) w1) (K : Nx w1 B ob L1 o1 o2 w2) : Nx w B ob L o o2 w2 := Nx.step N K
set_option maxHeartbeats 8000000 in
set_option maxRecDepth 100000 in
theorem line_any (w0 : World) (k : Nat) (B ob : Nat) (L : Lo) (o : OS) (w : World) (E : Env w0 B w) (H : OIs w B ob L o) (W : Wo o) (K : Lim k o) (hk : k < 7) (hl : o.line = none) (t : ByteArray) (ht : t.size ≤ 600) (f : Nat) (hf : f ≤ 1000000) (n : Nat) (q : Int × Nat × OS) (hE : Ends n f (begin_ o t) q) :
    Calls Tryz.prog 11 #[.pointer (some ⟨ob, 0, none⟩), .string t, .int .i64 f] w fun e w' => e = .returned (.tuple #[.int .i64 q.1, .int .i64 q.2.1]) ∧ Nx w B ob L o q.2.2 w' := by
  have c13 := line_none H hl
  have HBg := Lib.hid (begin_any B ob L o w H E.hB hl t ht)
  have HH := Lib.hid H
  have HE := Lib.hid E
  have HWb : Hid (Wo (begin_ o t)) := (W.line' (some t.data.toList) fun x e => by injection e with e; subst e; exact ht).last' _
  have HKb := Lib.hid (lim_begin K hl t ht hk)
  have HEn := Lib.hid hE
  have HFf := Lib.hid hf
  have hmx : max (f : Int) 0 = (f : Int) := Int.max_eq_left (Int.natCast_nonneg _)
  clear H W K hl ht hE E hk hf
  go_enter Tryz.func11, Tryz.ntmps11
  go_wp2_with fail
  refine HBg.out.mono ?_
  rintro e w1 ⟨rfl, L1, N1, K1⟩
  have HT1 := Lib.hid N1
  have HL1 := Lib.hid K1
  clear N1 K1 HBg c13
  go_wp2_with fail
  clear hmx
  go_loopg [2] n (fun gg v wr => ∃ (n' f' : Nat) (oj : OS) (Lj : Lo), gg = n' ∧ v = .int .i64 f' ∧ Hid (f' ≤ 1000000) ∧ Hid (Turns w B (oRes ob L o) (oRes ob Lj oj) wr) ∧ Hid (Lok Lj oj) ∧ Hid (Wo oj) ∧ Hid (Lim (k + 1) oj) ∧ Hid (Ends n' f' oj q))
  case atStart => exact ⟨n, f, _, L1, rfl, rfl, HFf, HT1, HL1, HWb, HKb, HEn⟩
  case round =>
    obtain ⟨n', f', oj, Lj, hg, rfl, HFj, HTr, HKr, HWr, HMr, HEj⟩ := hrel
    have Hg := Lib.hid hg
    clear hg HFf HT1 HL1 HWb HKb HEn
    cases n' with
    | zero => exact HEj.out.elim
    | succ m =>
      have HEr := Lib.hid (HE.out.turns HH.out.held HTr.out)
      have HGo := Lib.hid (go_any w0 (k + 1) B ob Lj oj wr HEr.out ⟨HTr.out.held, HKr.out⟩ HWr.out HMr.out)
      unfold GoPost at HGo
      have HEq : Hid ((((go oj).2.1 = false ∨ f' = 0) ∧ q = ((go oj).1, f', (go oj).2.2)) ∨ (¬ ((go oj).2.1 = false ∨ f' = 0) ∧ Ends m (Mc.run f' (go oj).2.2.m).2 { (go oj).2.2 with m := (Mc.run f' (go oj).2.2.m).1 } q)) := HEj.out
      have HW2 := Lib.hid (go_wo oj HWr.out).1
      have HK2 := Lib.hid (lim_go HWr.out HMr.out)
      clear HEj
      generalize go oj = r at *
      obtain ⟨c, b, o2⟩ := r
      dsimp only at HGo HEq HW2 HK2
      go_wp2_with fail
      refine HGo.out.mono ?_
      rintro e w2 ⟨rfl, L2, N2, K2⟩
      have HT2 := Lib.hid (HTr.out.trans N2)
      have HL2 := Lib.hid K2
      have HI2 : Hid (OIs w2 B ob L2 o2) := ⟨N2.held, K2⟩
      have HE2 := Lib.hid (HE.out.turns HH.out.held HT2.out)
      clear N2 K2 HGo
      cases b with
      | false =>
        have HQ : Hid (q = (c, f', o2)) := HEq.out.elim (fun h => h.2) (fun h => absurd (Or.inl rfl) h.1)
        clear HEq
        go_wp2_with fail
        go_ret2
        rw [HQ.out]
        exact ⟨rfl, L2, HT2.out, HL2.out⟩
      | true =>
        by_cases hf0 : f' = 0
        · subst hf0
          have HQ : Hid (q = (c, 0, o2)) := HEq.out.elim (fun h => h.2) (fun h => absurd (Or.inr rfl) h.1)
          have e0 : ((0 : Nat) : Int) = 0 := rfl
          rw [e0]
          clear HEq
          go_wp2_with fail
          go_ret2
          rw [HQ.out]
          exact ⟨rfl, L2, HT2.out, HL2.out⟩
        · have HQ : Hid (Ends m (Mc.run f' o2.m).2 { o2 with m := (Mc.run f' o2.m).1 } q) := HEq.out.elim (fun h => absurd h.1 (fun h => h.elim (fun h => by cases h) hf0)) (fun h => h.2)
          have hfi : ¬ (f' : Int) ≤ 0 := by omega
          have hfd : decide (f' ≤ 0) = false := by simpa using hf0
          have HRun := Lib.hid (Mc.run_any w0 HE.out.hg B L2.sv L2.bv L2.mv o2.m f' w2 HI2.out.rows HW2.out.m HFj.out (Nat.le_trans HE.out.lo HE2.out.hB) HE2.out.below)
          have HWf := Lib.hid (Mc.run_wf f' o2.m HW2.out.m)
          have HW3 := Lib.hid (run_wo f' o2 HW2.out)
          have HFl := Lib.hid (Nat.le_trans (Mc.run_wf f' o2.m HW2.out.m).2.2.2 HFj.out)
          have HPos : Hid (0 < (Mc.run f' o2.m).1.mem.length) := by
            show 0 < _
            rw [(Mc.run_wf f' o2.m HW2.out.m).2.1]
            exact HL2.out.pos
          have HRg := Lib.hid HI2.out.range
          have HIn := Lib.hid (sCells_info L2.sv L2.bv L2.mv o2.m)
          clear HEq hf0
          generalize Mc.run f' o2.m = p at *
          obtain ⟨m2, f2⟩ := p
          dsimp only at HQ HRun HWf HW3 HFl HPos
          go_wp2_with (refine wpList_load_mid rfl _ _ rfl ob 0 rfl (Mc.sCells L2.sv L2.bv L2.mv o2.m).toList _ HRg.out Tryz.underlying33 rfl HIn.out ?_)
          refine HRun.out.mono ?_
          rintro e w3 ⟨sv3, bv3, mv3, rfl, H3, k3⟩
          have R3 : Mc.StRows w3 w2.heap.size sv3 bv3 mv3 m2 := ⟨H3.row (by simp [Mc.stRows]), H3.row (by simp [Mc.stRows]), H3.row (by simp [Mc.stRows])⟩
          obtain ⟨SA3, sc3, rfl⟩ := R3.st.slice
          obtain ⟨BA3, bc3, rfl⟩ := R3.bk.slice
          obtain ⟨MA3, mc3, rfl⟩ := R3.me.slice
          have T3 := Turns.of_below HI2.out.held k3 (Nat.le_refl _)
          have HT4 := Lib.hid (HT2.out.trans (T3.trans (Turns.lone T3.held (.cells (Mc.sCells (.slice SA3 m2.stack.length sc3) (.slice BA3 m2.back.length bc3) (.slice MA3 m2.mem.length mc3) m2) 33))))
          have HI4 : Hid (OIs (w3.alloc (.cells (Mc.sCells (.slice SA3 m2.stack.length sc3) (.slice BA3 m2.back.length bc3) (.slice MA3 m2.mem.length mc3) m2) 33)) B ob L2 o2) := ⟨HT4.out.held, HL2.out⟩
          have HE4 := Lib.hid (HE.out.turns HH.out.held HT4.out)
          have HB4 := Lib.hid (Blk.new w3 33 (Mc.sCells (.slice SA3 m2.stack.length sc3) (.slice BA3 m2.back.length bc3) (.slice MA3 m2.mem.length mc3) m2))
          have ha := (Below.refl w3.heap.size w3).alloc (Nat.le_refl _) (.cells (Mc.sCells (.slice SA3 m2.stack.length sc3) (.slice BA3 m2.back.length bc3) (.slice MA3 m2.mem.length mc3) m2) 33)
          have HBk := Lib.hid (back_any B ob L2 o2 _ HI4.out HE4.out.hB w2.heap.size (.slice SA3 m2.stack.length sc3) (.slice BA3 m2.back.length bc3) (.slice MA3 m2.mem.length mc3) m2 (R3.below ha (Nat.le_refl _)) HWf.out.1 HPos.out)
          clear H3 k3 T3 ha R3 HRun
          unfold Mc.sCells at HBk HB4 HT4 HI4 HE4 ⊢
          have x0 := HB4.out.cell 0
          have x1 := HB4.out.cell 1
          have x2 := HB4.out.cell 2
          have x3 := HB4.out.cell 3
          have x4 := HB4.out.cell 4
          have x5 := HB4.out.cell 5
          have x6 := HB4.out.cell 6
          have x7 := HB4.out.cell 7
          have x8 := HB4.out.cell 8
          have x9 := HB4.out.cell 9
          simp only [List.getElem?_toArray, List.getElem?_cons_zero, List.getElem?_cons_succ] at x0 x1 x2 x3 x4 x5 x6 x7 x8 x9
          go_wp2_with fail
          refine HBk.out.mono ?_
          rintro e w5 ⟨rfl, L5, N5, K5⟩
          have HT5 := Lib.hid (HT4.out.trans N5)
          have HL5 := Lib.hid K5
          have HK5 := Lib.hid (lim_m HK2.out m2)
          clear N5 K5 HBk HB4 HT4 HI4 HE4 x0 x1 x2 x3 x4 x5 x6 x7 x8 x9
          go_wp2_with fail
          go_roundg m
          case rel => exact ⟨m, f2, _, L5, rfl, rfl, HFl, HT5, HL5, HW3, HK5, HQ⟩
          case measure => rw [Hg.out]; exact Nat.lt_succ_self _
end Go.Proofs.YtompdfpjmdnhoabGreatDoor.Ou
namespace Go.Proofs.YtompdfpjmdnhoabGreatDoor.Ou
open Go.RowKit Go.Proofs.YtompdfpjmdnhoabGreatDoor.Rs Go.Proofs.YtompdfpjmdnhoabGreatDoor.Src Go.Proofs.YtompdfpjmdnhoabGreatDoor.Ft
def nilV : Value := .slice none 0 0
theorem new_held {w2 w3 : World} {B wb : Nat} {wv mv : Value} {b : Mc.S} {ws : List Wd} (H2 : Held w2 B (Mc.stRows nilV nilV mv b)) (HW : Held w3 w2.heap.size (wRes wb wv ws)) (k : Below w2.heap.size w2 w3) (hB : B ≤ w2.heap.size) (cs : Array Value) :
    Held (w3.alloc (.cells cs 47)) B (.st w3.heap.size 47 cs :: (Mc.stRows nilV nilV mv b ++ wRes wb wv ws ++ [.row 3 1 nilV 0 []])) := by
  have N0 : Turns w2 B [] (wRes wb wv ws) w3 := ⟨HW.mono hB, Touch.of_below k _, fun i hi => .inr (HW.low hi).1⟩
  have N1 := Turns.made H2 N0
  have Nn : Turns w3 B [] [.row 3 1 nilV 0 []] w3 := ⟨⟨fun r hr => by simp only [List.mem_singleton] at hr; subst hr; exact Row.nil _ _ _ _ _, (List.nodup_nil : ([] : List Nat).Nodup)⟩, Touch.refl _ _, fun k hk => by simp [blks, Res.blk, roomBlock, nilV] at hk⟩
  have N2 := N1.trans (Turns.made N1.held Nn)
  have p : ([.row 3 1 nilV 0 []] ++ (wRes wb wv ws ++ Mc.stRows nilV nilV mv b) : List Res).Perm (Mc.stRows nilV nilV mv b ++ wRes wb wv ws ++ [.row 3 1 nilV 0 []]) :=
    List.perm_append_comm.trans (List.perm_append_comm.append (List.Perm.refl _))
  have N3 := N2.perm p
  exact (Turns.new_st N3.held (Nat.le_trans hB k.size) 47 cs).held
set_option maxHeartbeats 4000000 in
set_option maxRecDepth 100000 in
theorem oNew_any (n : Nat) (hn : n ≤ 3000) (hn0 : 0 < n) (inp : ByteArray) (w : World) :
    Calls Tryz.prog 10 #[.int .i64 n, .string inp] w fun e w' => ∃ ob L, e = .returned (.pointer (some ⟨ob, 0, none⟩)) ∧ OIs w' w.heap.size ob L (new Mc.opName n inp) ∧ Below w.heap.size w w' := by
  have HBo := Lib.hid (Mc.boot_any n hn inp w)
  have hlen : (Mc.boot n inp).mem.length = n := by show (Mc.bootMem n).length = n; simp [Mc.bootMem]
  have HLn := Lib.hid hlen
  have HPos := Lib.hid hn0
  have hmin : min (192 : Int) (n : Int) = ((min 192 n : Nat) : Int) := by omega
  have HNew : Hid (new Mc.opName n inp = ⟨Mc.boot n inp, words0 Mc.opName, min 192 n, 10, none, none, false, ByteArray.empty, []⟩) := rfl
  clear hn hn0 hlen
  have HB0 : Hid ((Mc.boot n inp).ip = 0 ∧ (Mc.boot n inp).handler = 0 ∧ (Mc.boot n inp).out = ByteArray.empty ∧ (Mc.boot n inp).inp = inp ∧ (Mc.boot n inp).read = 0 ∧ (Mc.boot n inp).status = 1 ∧ (Mc.boot n inp).code = 0 ∧ (Mc.boot n inp).stack = [] ∧ (Mc.boot n inp).back = []) := ⟨rfl, rfl, rfl, rfl, rfl, rfl, rfl, rfl, rfl⟩
  generalize Mc.boot n inp = b at *
  go_enter Tryz.func10, Tryz.ntmps10
  go_wp2_with fail
  refine HBo.out.mono ?_
  rintro e w2 ⟨mv, rfl, H2, k2⟩
  obtain ⟨MA, mc, hmv⟩ := (H2.row (e := 3) (sz := 1) (v := mv) (n := b.mem.length) (xs := ints b.mem) (by simp [Mc.stRows])).slice
  rw [HLn.out] at hmv
  subst hmv
  have HH2 := Lib.hid H2
  have HK2 := Lib.hid k2
  have HX := Lib.hid (Blk.new w2 33 (Mc.sCells (.slice none 0 0) (.slice none 0 0) (.slice MA n mc) b))
  have HWn := Lib.hid (new_any ((w2.alloc (.cells (Mc.sCells (.slice none 0 0) (.slice none 0 0) (.slice MA n mc) b) 33)).drewN 1))
  clear H2 k2 HBo
  unfold Mc.sCells at HX HWn ⊢
  have x0 := HX.out.cell 0
  have x1 := HX.out.cell 1
  have x2 := HX.out.cell 2
  have x3 := HX.out.cell 3
  have x4 := HX.out.cell 4
  have x5 := HX.out.cell 5
  have x6 := HX.out.cell 6
  have x7 := HX.out.cell 7
  have x8 := HX.out.cell 8
  have x9 := HX.out.cell 9
  simp only [List.getElem?_toArray, List.getElem?_cons_zero, List.getElem?_cons_succ] at x0 x1 x2 x3 x4 x5 x6 x7 x8 x9
  go_upto_region 2 with fail
  go_region_with ((go_at_call 18; refine HWn.out.mono ?_; rintro e w3 ⟨wv, rfl, HW3, k3⟩; have HW := Lib.hid HW3; have HK3 := Lib.hid k3; have HY := Lib.hid ((HX.out.drewN 1).below k3 (HX.out.drewN 1).lt); clear HW3 k3; have y0 := HY.out.cell 0; have y1 := HY.out.cell 1; have y2 := HY.out.cell 2; have y3 := HY.out.cell 3; have y4 := HY.out.cell 4; have y5 := HY.out.cell 5; have y6 := HY.out.cell 6; have y7 := HY.out.cell 7; have y8 := HY.out.cell 8; have y9 := HY.out.cell 9; simp only [List.getElem?_toArray, List.getElem?_cons_zero, List.getElem?_cons_succ] at y0 y1 y2 y3 y4 y5 y6 y7 y8 y9))
  all_goals
    have hz : ((w2.alloc (.cells #[.int .i64 b.ip, .int .i64 b.handler, .slice none 0 0, .slice none 0 0, .slice MA n mc, .string b.out, .string b.inp, .int .i64 b.read, .int .i64 b.status, .int .i64 b.code] 33)).drewN 1).heap.size = w2.heap.size + 1 := by simp
    have HHn := Lib.hid (new_held ((Turns.lone HH2.out (.cells #[.int .i64 b.ip, .int .i64 b.handler, .slice none 0 0, .slice none 0 0, .slice MA n mc, .string b.out, .string b.inp, .int .i64 b.read, .int .i64 b.status, .int .i64 b.code] 33)).held.drewN 1) HW.out HK3.out (by rw [hz]; exact Nat.le_trans HK2.out.size (Nat.le_succ _)) #[.int .i64 b.ip, .int .i64 b.handler, .slice none 0 0, .slice none 0 0, .slice MA n mc, .string b.out, .string b.inp, .int .i64 b.read, .int .i64 b.status, .int .i64 b.code, .pointer (some ⟨w2.heap.size + 1, 0, none⟩), .int .i64 ((min 192 n : Nat) : Int), .int .i64 10, .pointer none, .pointer none, .bool false, .string ⟨#[]⟩, .slice none 0 0])
    have HBl : Hid (Below w.heap.size w (w3.alloc (.cells #[.int .i64 b.ip, .int .i64 b.handler, .slice none 0 0, .slice none 0 0, .slice MA n mc, .string b.out, .string b.inp, .int .i64 b.read, .int .i64 b.status, .int .i64 b.code, .pointer (some ⟨w2.heap.size + 1, 0, none⟩), .int .i64 ((min 192 n : Nat) : Int), .int .i64 10, .pointer none, .pointer none, .bool false, .string ⟨#[]⟩, .slice none 0 0] 47))) := ((((HK2.out.alloc HK2.out.size _).trans (below_of_draw (Below.refl _ _) 1)).trans (HK3.out.mono (by rw [hz]; exact Nat.le_trans HK2.out.size (Nat.le_succ _)))).alloc (Nat.le_trans (by rw [hz] ; exact Nat.le_trans HK2.out.size (Nat.le_succ _) : w.heap.size ≤ ((w2.alloc (.cells #[.int .i64 b.ip, .int .i64 b.handler, .slice none 0 0, .slice none 0 0, .slice MA n mc, .string b.out, .string b.inp, .int .i64 b.read, .int .i64 b.status, .int .i64 b.code] 33)).drewN 1).heap.size) HK3.out.size) _)
    rw [hz] at HHn
    clear hz x0 y0 x1 y1 x2 y2 x3 y3 x4 y4 x5 y5 x6 y6 x7 y7 x8 y8 x9 y9 HX HY HW HK3 HK2 HH2
    go_wp2_with fail
    go_ret
    refine ⟨w3.heap.size, ⟨nilV, nilV, .slice MA n mc, w2.heap.size + 1, wv, nilV, 0, ByteArray.empty, 0, 0, ⟨0, none, 0, none, 0⟩⟩, rfl, ⟨?_, ⟨(fun l e => by rw [HNew.out] at e; cases e), (fun d e => by rw [HNew.out] at e; cases e), ?_⟩⟩, HBl.out⟩
    · rw [HNew.out]
      exact HHn.out
    · rw [HNew.out]
      show 0 < b.mem.length
      rw [HLn.out]
      exact HPos.out
end Go.Proofs.YtompdfpjmdnhoabGreatDoor.Ou
namespace Go.Proofs.YtompdfpjmdnhoabGreatDoor.Ou
open Go.RowKit Go.Proofs.YtompdfpjmdnhoabGreatDoor.Rs Go.Proofs.YtompdfpjmdnhoabGreatDoor.Src Go.Proofs.YtompdfpjmdnhoabGreatDoor.Ft
set_option maxHeartbeats 4000000 in
set_option maxRecDepth 100000 in
theorem state_any (B ob : Nat) (L : Lo) (o : OS) (w : World) (H : OIs w B ob L o) (W : Wo o) :
    Calls Tryz.prog 12 #[.pointer (some ⟨ob, 0, none⟩)] w fun e w' => ∃ sv bv mv, e = .returned (.agg (Mc.sCells sv bv mv o.m)) ∧ Held w' w.heap.size (Mc.stRows sv bv mv o.m) ∧ Below w.heap.size w w' := by
  have hns := W.m.ns
  have hnb := W.m.nb
  have hnm := W.m.nm
  have z0 : Array Value := #[.int .i64 0, .int .i64 0, .slice none 0 0, .slice none 0 0, .slice none 0 0, .string ⟨#[]⟩, .string ⟨#[]⟩, .int .i64 0, .int .i64 0, .int .i64 0]
  have H1 := H.alloc (.cells #[.int .i64 0, .int .i64 0, .slice none 0 0, .slice none 0 0, .slice none 0 0, .string ⟨#[]⟩, .string ⟨#[]⟩, .int .i64 0, .int .i64 0, .int .i64 0] 33)
  have k1 := (Below.refl w.heap.size w).alloc (Nat.le_refl _) (.cells #[.int .i64 0, .int .i64 0, .slice none 0 0, .slice none 0 0, .slice none 0 0, .string ⟨#[]⟩, .string ⟨#[]⟩, .int .i64 0, .int .i64 0, .int .i64 0] 33)
  have D1 := Lib.hid (Blk.new w 33 #[.int .i64 0, .int .i64 0, .slice none 0 0, .slice none 0 0, .slice none 0 0, .string ⟨#[]⟩, .string ⟨#[]⟩, .int .i64 0, .int .i64 0, .int .i64 0])
  have HC := Lib.hid (Mc.copy_any B L.sv L.bv L.mv o.m _ H1.rows (by omega) (by omega) (by omega))
  have HRg := Lib.hid H1.range
  have HIn := Lib.hid (sCells_info L.sv L.bv L.mv o.m)
  have HK1 := Lib.hid k1
  have HZ : Hid (w.heap.size < (w.alloc (.cells #[.int .i64 0, .int .i64 0, .slice none 0 0, .slice none 0 0, .slice none 0 0, .string ⟨#[]⟩, .string ⟨#[]⟩, .int .i64 0, .int .i64 0, .int .i64 0] 33)).heap.size) := by show _ < _; simp
  clear H H1 W hns hnb hnm k1 z0
  go_enter Tryz.func12, Tryz.ntmps12
  go_wp2_with (refine wpList_load_mid rfl _ _ rfl ob 0 rfl (Mc.sCells L.sv L.bv L.mv o.m).toList _ HRg.out Tryz.underlying33 rfl HIn.out ?_)
  refine HC.out.mono ?_
  rintro e w2 ⟨sv, bv, mv, rfl, H2, k2⟩
  have D2 := Lib.hid (D1.out.below k2 D1.out.lt)
  have HI := Lib.hid (sCells_info sv bv mv o.m)
  have HO := Lib.hid (rows_one H2)
  have HH2 := Lib.hid H2
  have HK2 := Lib.hid (HK1.out.trans (k2.mono (Nat.le_of_lt HZ.out)))
  clear H2 k2 HC
  go_wp2_with (refine wpList_store_row rfl _ _ _ rfl w.heap.size (Mc.sCells sv bv mv o.m) rfl rfl _ _ D2.out HI.out rfl HO.out ?_)
  refine bodyPost_ret (results_cell_row rfl _ _ w.heap.size _ _ (0, 0) _ rfl (setRow_heap _ _ _ _ _ _ D2.out) Tryz.underlying33 rfl HI.out) rfl ⟨sv, bv, mv, rfl, ?_, ?_⟩
  · refine (HH2.out.touch (Wv.touch_setRow w2 w.heap.size (Mc.sCells sv bv mv o.m)) (fun k hk e => ?_)).mono (Nat.le_of_lt HZ.out)
    have h1 := (HH2.out.low hk).1
    have h2 := HZ.out
    omega
  · exact HK2.out.trans ⟨rfl, rfl, rfl, by simp, fun k hk => setRow_other _ _ _ _ (Nat.ne_of_lt hk)⟩
end Go.Proofs.YtompdfpjmdnhoabGreatDoor.Ou
