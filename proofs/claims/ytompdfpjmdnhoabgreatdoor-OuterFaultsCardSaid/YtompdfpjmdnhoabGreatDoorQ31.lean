/-
  Lemmas on the way, for every input that they name: OoV, OoX.
-/
import Derived.WalkSpells
import Derived.Lib.SliceRun
import Derived.Test.YtompdfpjmdnhoabGreatDoorQ09
import Derived.Test.YtompdfpjmdnhoabGreatDoorQ29
import Derived.Test.YtompdfpjmdnhoabGreatDoorQ30
set_option linter.unusedVariables false
set_option linter.unusedSimpArgs false
set_option linter.deprecated false
namespace Go.Proofs.YtompdfpjmdnhoabGreatDoor.Ou
open Go.RowKit Go.Proofs.YtompdfpjmdnhoabGreatDoor.Rs Go.Proofs.YtompdfpjmdnhoabGreatDoor.Src
set_option maxHeartbeats 4000000 in
set_option maxRecDepth 100000 in
theorem compile_semi (B ob : Nat) (L : Lo) (o : OS) (w : World) (H : OIs w B ob L o) (W : Wo o) (hB : B ≤ w.heap.size) (d : Dr) (hd : o.draft = some d) (hl : o.laid.length ≤ 1000000000) :
    Calls Tryz.prog 57 #[.pointer (some ⟨ob, 0, none⟩), .string ⟨#[59]⟩] w (Did w B ob L o (finish o)) := by
  have c14 := draft_cell H hd
  have d0 : w.cell? ⟨L.db, 0, none⟩ = some (.pointer (some ⟨L.da.sb, 0, none⟩)) := (H.dblk hd).cell 0
  have d2 : w.cell? ⟨L.db, 2, none⟩ = some (.int .i64 d.at_) := (H.dblk hd).cell 2
  have HP := Lib.hid (finish_any B ob L o w H W hB d hd hl)
  clear H W hB hd hl
  go_enter Tryz.func57, Tryz.ntmps57
  go_wp2_with fail
  refine HP.out.mono ?_
  rintro e w2 ⟨rfl, N⟩
  have NN := Lib.hid N
  clear N
  go_wp2_with fail
  go_ret
  exact ⟨rfl, NN.out⟩
set_option maxHeartbeats 4000000 in
set_option maxRecDepth 100000 in
theorem compile_exit (B ob : Nat) (L : Lo) (o : OS) (w : World) (H : OIs w B ob L o) (W : Wo o) (hB : B ≤ w.heap.size) (d : Dr) (hd : o.draft = some d) :
    Calls Tryz.prog 57 #[.pointer (some ⟨ob, 0, none⟩), .string ⟨#[69, 88, 73, 84]⟩] w (Did w B ob L o (opW o 5)) := by
  have c14 := draft_cell H hd
  have d0 : w.cell? ⟨L.db, 0, none⟩ = some (.pointer (some ⟨L.da.sb, 0, none⟩)) := (H.dblk hd).cell 0
  have d2 : w.cell? ⟨L.db, 2, none⟩ = some (.int .i64 d.at_) := (H.dblk hd).cell 2
  have HP := Lib.hid (op_did H hd 5)
  clear H W hB hd
  go_enter Tryz.func57, Tryz.ntmps57
  go_wp2_with fail
  refine HP.out.mono ?_
  rintro e w2 ⟨rfl, N⟩
  have NN := Lib.hid N
  clear N
  go_wp2_with fail
  go_ret
  exact ⟨rfl, NN.out⟩
set_option maxHeartbeats 4000000 in
set_option maxRecDepth 100000 in
theorem compile_i (B ob : Nat) (L : Lo) (o : OS) (w : World) (H : OIs w B ob L o) (W : Wo o) (hB : B ≤ w.heap.size) (d : Dr) (hd : o.draft = some d) :
    Calls Tryz.prog 57 #[.pointer (some ⟨ob, 0, none⟩), .string ⟨#[73]⟩] w (Did w B ob L o (opW o 35)) := by
  have c14 := draft_cell H hd
  have d0 : w.cell? ⟨L.db, 0, none⟩ = some (.pointer (some ⟨L.da.sb, 0, none⟩)) := (H.dblk hd).cell 0
  have d2 : w.cell? ⟨L.db, 2, none⟩ = some (.int .i64 d.at_) := (H.dblk hd).cell 2
  have HP := Lib.hid (op_did H hd 35)
  clear H W hB hd
  go_enter Tryz.func57, Tryz.ntmps57
  go_wp2_with fail
  refine HP.out.mono ?_
  rintro e w2 ⟨rfl, N⟩
  have NN := Lib.hid N
  clear N
  go_wp2_with fail
  go_ret
  exact ⟨rfl, NN.out⟩
set_option maxHeartbeats 4000000 in
set_option maxRecDepth 100000 in
theorem compile_j (B ob : Nat) (L : Lo) (o : OS) (w : World) (H : OIs w B ob L o) (W : Wo o) (hB : B ≤ w.heap.size) (d : Dr) (hd : o.draft = some d) :
    Calls Tryz.prog 57 #[.pointer (some ⟨ob, 0, none⟩), .string ⟨#[74]⟩] w (Did w B ob L o (opW o 39)) := by
  have c14 := draft_cell H hd
  have d0 : w.cell? ⟨L.db, 0, none⟩ = some (.pointer (some ⟨L.da.sb, 0, none⟩)) := (H.dblk hd).cell 0
  have d2 : w.cell? ⟨L.db, 2, none⟩ = some (.int .i64 d.at_) := (H.dblk hd).cell 2
  have HP := Lib.hid (op_did H hd 39)
  clear H W hB hd
  go_enter Tryz.func57, Tryz.ntmps57
  go_wp2_with fail
  refine HP.out.mono ?_
  rintro e w2 ⟨rfl, N⟩
  have NN := Lib.hid N
  clear N
  go_wp2_with fail
  go_ret
  exact ⟨rfl, NN.out⟩
set_option maxHeartbeats 4000000 in
set_option maxRecDepth 100000 in
theorem compile_unloop (B ob : Nat) (L : Lo) (o : OS) (w : World) (H : OIs w B ob L o) (W : Wo o) (hB : B ≤ w.heap.size) (d : Dr) (hd : o.draft = some d) :
    Calls Tryz.prog 57 #[.pointer (some ⟨ob, 0, none⟩), .string ⟨#[85, 78, 76, 79, 79, 80]⟩] w (Did w B ob L o (opW o 40)) := by
  have c14 := draft_cell H hd
  have d0 : w.cell? ⟨L.db, 0, none⟩ = some (.pointer (some ⟨L.da.sb, 0, none⟩)) := (H.dblk hd).cell 0
  have d2 : w.cell? ⟨L.db, 2, none⟩ = some (.int .i64 d.at_) := (H.dblk hd).cell 2
  have HP := Lib.hid (op_did H hd 40)
  clear H W hB hd
  go_enter Tryz.func57, Tryz.ntmps57
  go_wp2_with fail
  refine HP.out.mono ?_
  rintro e w2 ⟨rfl, N⟩
  have NN := Lib.hid N
  clear N
  go_wp2_with fail
  go_ret
  exact ⟨rfl, NN.out⟩
set_option maxHeartbeats 4000000 in
set_option maxRecDepth 100000 in
theorem compile_recurse (B ob : Nat) (L : Lo) (o : OS) (w : World) (H : OIs w B ob L o) (W : Wo o) (hB : B ≤ w.heap.size) (d : Dr) (hd : o.draft = some d) :
    Calls Tryz.prog 57 #[.pointer (some ⟨ob, 0, none⟩), .string ⟨#[82, 69, 67, 85, 82, 83, 69]⟩] w (Did w B ob L o (recurse o)) := by
  have c14 := draft_cell H hd
  have d0 : w.cell? ⟨L.db, 0, none⟩ = some (.pointer (some ⟨L.da.sb, 0, none⟩)) := (H.dblk hd).cell 0
  have d2 : w.cell? ⟨L.db, 2, none⟩ = some (.int .i64 d.at_) := (H.dblk hd).cell 2
  have er : recurse o = Ou.wv o fun s => Wv.callR s d.at_ := by unfold recurse; rw [hd]
  rw [er]
  have HP := Lib.hid (call_did H hd d.at_)
  clear H W hB hd er
  go_enter Tryz.func57, Tryz.ntmps57
  go_wp2_with fail
  refine HP.out.mono ?_
  rintro e w2 ⟨rfl, N⟩
  have NN := Lib.hid N
  clear N
  go_wp2_with fail
  go_ret
  exact ⟨rfl, NN.out⟩
set_option maxHeartbeats 4000000 in
set_option maxRecDepth 100000 in
theorem compile_oIf (B ob : Nat) (L : Lo) (o : OS) (w : World) (H : OIs w B ob L o) (W : Wo o) (hB : B ≤ w.heap.size) (d : Dr) (hd : o.draft = some d) (ho : d.s.O.length < 4900) :
    Calls Tryz.prog 57 #[.pointer (some ⟨ob, 0, none⟩), .string ⟨#[73, 70]⟩] w (Did w B ob L o (Ou.wv o fun s => Wv.formR s ⟨#[73, 70]⟩)) := by
  have c14 := draft_cell H hd
  have d0 : w.cell? ⟨L.db, 0, none⟩ = some (.pointer (some ⟨L.da.sb, 0, none⟩)) := (H.dblk hd).cell 0
  have d2 : w.cell? ⟨L.db, 2, none⟩ = some (.int .i64 d.at_) := (H.dblk hd).cell 2
  have HP := Lib.hid (form_did H W hd ho ⟨#[73, 70]⟩ (by decide))
  have eu : (⟨(ups ⟨#[73, 70]⟩).toArray⟩ : ByteArray) = ⟨#[73, 70]⟩ := by rfl
  rw [eu] at HP
  clear H W hB hd ho eu
  go_enter Tryz.func57, Tryz.ntmps57
  go_wp2_with fail
  refine HP.out.mono ?_
  rintro e w2 ⟨rfl, N⟩
  have NN := Lib.hid N
  clear N
  go_wp2_with fail
  go_ret
  exact ⟨rfl, NN.out⟩
set_option maxHeartbeats 4000000 in
set_option maxRecDepth 100000 in
theorem compile_oElse (B ob : Nat) (L : Lo) (o : OS) (w : World) (H : OIs w B ob L o) (W : Wo o) (hB : B ≤ w.heap.size) (d : Dr) (hd : o.draft = some d) (ho : d.s.O.length < 4900) :
    Calls Tryz.prog 57 #[.pointer (some ⟨ob, 0, none⟩), .string ⟨#[69, 76, 83, 69]⟩] w (Did w B ob L o (Ou.wv o fun s => Wv.formR s ⟨#[69, 76, 83, 69]⟩)) := by
  have c14 := draft_cell H hd
  have d0 : w.cell? ⟨L.db, 0, none⟩ = some (.pointer (some ⟨L.da.sb, 0, none⟩)) := (H.dblk hd).cell 0
  have d2 : w.cell? ⟨L.db, 2, none⟩ = some (.int .i64 d.at_) := (H.dblk hd).cell 2
  have HP := Lib.hid (form_did H W hd ho ⟨#[69, 76, 83, 69]⟩ (by decide))
  have eu : (⟨(ups ⟨#[69, 76, 83, 69]⟩).toArray⟩ : ByteArray) = ⟨#[69, 76, 83, 69]⟩ := by rfl
  rw [eu] at HP
  clear H W hB hd ho eu
  go_enter Tryz.func57, Tryz.ntmps57
  go_wp2_with fail
  refine HP.out.mono ?_
  rintro e w2 ⟨rfl, N⟩
  have NN := Lib.hid N
  clear N
  go_wp2_with fail
  go_ret
  exact ⟨rfl, NN.out⟩
set_option maxHeartbeats 4000000 in
set_option maxRecDepth 100000 in
theorem compile_oThen (B ob : Nat) (L : Lo) (o : OS) (w : World) (H : OIs w B ob L o) (W : Wo o) (hB : B ≤ w.heap.size) (d : Dr) (hd : o.draft = some d) (ho : d.s.O.length < 4900) :
    Calls Tryz.prog 57 #[.pointer (some ⟨ob, 0, none⟩), .string ⟨#[84, 72, 69, 78]⟩] w (Did w B ob L o (Ou.wv o fun s => Wv.formR s ⟨#[84, 72, 69, 78]⟩)) := by
  have c14 := draft_cell H hd
  have d0 : w.cell? ⟨L.db, 0, none⟩ = some (.pointer (some ⟨L.da.sb, 0, none⟩)) := (H.dblk hd).cell 0
  have d2 : w.cell? ⟨L.db, 2, none⟩ = some (.int .i64 d.at_) := (H.dblk hd).cell 2
  have HP := Lib.hid (form_did H W hd ho ⟨#[84, 72, 69, 78]⟩ (by decide))
  have eu : (⟨(ups ⟨#[84, 72, 69, 78]⟩).toArray⟩ : ByteArray) = ⟨#[84, 72, 69, 78]⟩ := by rfl
  rw [eu] at HP
  clear H W hB hd ho eu
  go_enter Tryz.func57, Tryz.ntmps57
  go_wp2_with fail
  refine HP.out.mono ?_
  rintro e w2 ⟨rfl, N⟩
  have NN := Lib.hid N
  clear N
  go_wp2_with fail
  go_ret
  exact ⟨rfl, NN.out⟩
set_option maxHeartbeats 4000000 in
set_option maxRecDepth 100000 in
theorem compile_oBegin (B ob : Nat) (L : Lo) (o : OS) (w : World) (H : OIs w B ob L o) (W : Wo o) (hB : B ≤ w.heap.size) (d : Dr) (hd : o.draft = some d) (ho : d.s.O.length < 4900) :
    Calls Tryz.prog 57 #[.pointer (some ⟨ob, 0, none⟩), .string ⟨#[66, 69, 71, 73, 78]⟩] w (Did w B ob L o (Ou.wv o fun s => Wv.formR s ⟨#[66, 69, 71, 73, 78]⟩)) := by
  have c14 := draft_cell H hd
  have d0 : w.cell? ⟨L.db, 0, none⟩ = some (.pointer (some ⟨L.da.sb, 0, none⟩)) := (H.dblk hd).cell 0
  have d2 : w.cell? ⟨L.db, 2, none⟩ = some (.int .i64 d.at_) := (H.dblk hd).cell 2
  have HP := Lib.hid (form_did H W hd ho ⟨#[66, 69, 71, 73, 78]⟩ (by decide))
  have eu : (⟨(ups ⟨#[66, 69, 71, 73, 78]⟩).toArray⟩ : ByteArray) = ⟨#[66, 69, 71, 73, 78]⟩ := by rfl
  rw [eu] at HP
  clear H W hB hd ho eu
  go_enter Tryz.func57, Tryz.ntmps57
  go_wp2_with fail
  refine HP.out.mono ?_
  rintro e w2 ⟨rfl, N⟩
  have NN := Lib.hid N
  clear N
  go_wp2_with fail
  go_ret
  exact ⟨rfl, NN.out⟩
set_option maxHeartbeats 4000000 in
set_option maxRecDepth 100000 in
theorem compile_oUntil (B ob : Nat) (L : Lo) (o : OS) (w : World) (H : OIs w B ob L o) (W : Wo o) (hB : B ≤ w.heap.size) (d : Dr) (hd : o.draft = some d) (ho : d.s.O.length < 4900) :
    Calls Tryz.prog 57 #[.pointer (some ⟨ob, 0, none⟩), .string ⟨#[85, 78, 84, 73, 76]⟩] w (Did w B ob L o (Ou.wv o fun s => Wv.formR s ⟨#[85, 78, 84, 73, 76]⟩)) := by
  have c14 := draft_cell H hd
  have d0 : w.cell? ⟨L.db, 0, none⟩ = some (.pointer (some ⟨L.da.sb, 0, none⟩)) := (H.dblk hd).cell 0
  have d2 : w.cell? ⟨L.db, 2, none⟩ = some (.int .i64 d.at_) := (H.dblk hd).cell 2
  have HP := Lib.hid (form_did H W hd ho ⟨#[85, 78, 84, 73, 76]⟩ (by decide))
  have eu : (⟨(ups ⟨#[85, 78, 84, 73, 76]⟩).toArray⟩ : ByteArray) = ⟨#[85, 78, 84, 73, 76]⟩ := by rfl
  rw [eu] at HP
  clear H W hB hd ho eu
  go_enter Tryz.func57, Tryz.ntmps57
  go_wp2_with fail
  refine HP.out.mono ?_
  rintro e w2 ⟨rfl, N⟩
  have NN := Lib.hid N
  clear N
  go_wp2_with fail
  go_ret
  exact ⟨rfl, NN.out⟩
set_option maxHeartbeats 4000000 in
set_option maxRecDepth 100000 in
theorem compile_oAgain (B ob : Nat) (L : Lo) (o : OS) (w : World) (H : OIs w B ob L o) (W : Wo o) (hB : B ≤ w.heap.size) (d : Dr) (hd : o.draft = some d) (ho : d.s.O.length < 4900) :
    Calls Tryz.prog 57 #[.pointer (some ⟨ob, 0, none⟩), .string ⟨#[65, 71, 65, 73, 78]⟩] w (Did w B ob L o (Ou.wv o fun s => Wv.formR s ⟨#[65, 71, 65, 73, 78]⟩)) := by
  have c14 := draft_cell H hd
  have d0 : w.cell? ⟨L.db, 0, none⟩ = some (.pointer (some ⟨L.da.sb, 0, none⟩)) := (H.dblk hd).cell 0
  have d2 : w.cell? ⟨L.db, 2, none⟩ = some (.int .i64 d.at_) := (H.dblk hd).cell 2
  have HP := Lib.hid (form_did H W hd ho ⟨#[65, 71, 65, 73, 78]⟩ (by decide))
  have eu : (⟨(ups ⟨#[65, 71, 65, 73, 78]⟩).toArray⟩ : ByteArray) = ⟨#[65, 71, 65, 73, 78]⟩ := by rfl
  rw [eu] at HP
  clear H W hB hd ho eu
  go_enter Tryz.func57, Tryz.ntmps57
  go_wp2_with fail
  refine HP.out.mono ?_
  rintro e w2 ⟨rfl, N⟩
  have NN := Lib.hid N
  clear N
  go_wp2_with fail
  go_ret
  exact ⟨rfl, NN.out⟩
set_option maxHeartbeats 4000000 in
set_option maxRecDepth 100000 in
theorem compile_oWhile (B ob : Nat) (L : Lo) (o : OS) (w : World) (H : OIs w B ob L o) (W : Wo o) (hB : B ≤ w.heap.size) (d : Dr) (hd : o.draft = some d) (ho : d.s.O.length < 4900) :
    Calls Tryz.prog 57 #[.pointer (some ⟨ob, 0, none⟩), .string ⟨#[87, 72, 73, 76, 69]⟩] w (Did w B ob L o (Ou.wv o fun s => Wv.formR s ⟨#[87, 72, 73, 76, 69]⟩)) := by
  have c14 := draft_cell H hd
  have d0 : w.cell? ⟨L.db, 0, none⟩ = some (.pointer (some ⟨L.da.sb, 0, none⟩)) := (H.dblk hd).cell 0
  have d2 : w.cell? ⟨L.db, 2, none⟩ = some (.int .i64 d.at_) := (H.dblk hd).cell 2
  have HP := Lib.hid (form_did H W hd ho ⟨#[87, 72, 73, 76, 69]⟩ (by decide))
  have eu : (⟨(ups ⟨#[87, 72, 73, 76, 69]⟩).toArray⟩ : ByteArray) = ⟨#[87, 72, 73, 76, 69]⟩ := by rfl
  rw [eu] at HP
  clear H W hB hd ho eu
  go_enter Tryz.func57, Tryz.ntmps57
  go_wp2_with fail
  refine HP.out.mono ?_
  rintro e w2 ⟨rfl, N⟩
  have NN := Lib.hid N
  clear N
  go_wp2_with fail
  go_ret
  exact ⟨rfl, NN.out⟩
set_option maxHeartbeats 4000000 in
set_option maxRecDepth 100000 in
theorem compile_oRepeat (B ob : Nat) (L : Lo) (o : OS) (w : World) (H : OIs w B ob L o) (W : Wo o) (hB : B ≤ w.heap.size) (d : Dr) (hd : o.draft = some d) (ho : d.s.O.length < 4900) :
    Calls Tryz.prog 57 #[.pointer (some ⟨ob, 0, none⟩), .string ⟨#[82, 69, 80, 69, 65, 84]⟩] w (Did w B ob L o (Ou.wv o fun s => Wv.formR s ⟨#[82, 69, 80, 69, 65, 84]⟩)) := by
  have c14 := draft_cell H hd
  have d0 : w.cell? ⟨L.db, 0, none⟩ = some (.pointer (some ⟨L.da.sb, 0, none⟩)) := (H.dblk hd).cell 0
  have d2 : w.cell? ⟨L.db, 2, none⟩ = some (.int .i64 d.at_) := (H.dblk hd).cell 2
  have HP := Lib.hid (form_did H W hd ho ⟨#[82, 69, 80, 69, 65, 84]⟩ (by decide))
  have eu : (⟨(ups ⟨#[82, 69, 80, 69, 65, 84]⟩).toArray⟩ : ByteArray) = ⟨#[82, 69, 80, 69, 65, 84]⟩ := by rfl
  rw [eu] at HP
  clear H W hB hd ho eu
  go_enter Tryz.func57, Tryz.ntmps57
  go_wp2_with fail
  refine HP.out.mono ?_
  rintro e w2 ⟨rfl, N⟩
  have NN := Lib.hid N
  clear N
  go_wp2_with fail
  go_ret
  exact ⟨rfl, NN.out⟩
set_option maxHeartbeats 4000000 in
set_option maxRecDepth 100000 in
theorem compile_oDo (B ob : Nat) (L : Lo) (o : OS) (w : World) (H : OIs w B ob L o) (W : Wo o) (hB : B ≤ w.heap.size) (d : Dr) (hd : o.draft = some d) (ho : d.s.O.length < 4900) :
    Calls Tryz.prog 57 #[.pointer (some ⟨ob, 0, none⟩), .string ⟨#[68, 79]⟩] w (Did w B ob L o (Ou.wv o fun s => Wv.formR s ⟨#[68, 79]⟩)) := by
  have c14 := draft_cell H hd
  have d0 : w.cell? ⟨L.db, 0, none⟩ = some (.pointer (some ⟨L.da.sb, 0, none⟩)) := (H.dblk hd).cell 0
  have d2 : w.cell? ⟨L.db, 2, none⟩ = some (.int .i64 d.at_) := (H.dblk hd).cell 2
  have HP := Lib.hid (form_did H W hd ho ⟨#[68, 79]⟩ (by decide))
  have eu : (⟨(ups ⟨#[68, 79]⟩).toArray⟩ : ByteArray) = ⟨#[68, 79]⟩ := by rfl
  rw [eu] at HP
  clear H W hB hd ho eu
  go_enter Tryz.func57, Tryz.ntmps57
  go_wp2_with fail
  refine HP.out.mono ?_
  rintro e w2 ⟨rfl, N⟩
  have NN := Lib.hid N
  clear N
  go_wp2_with fail
  go_ret
  exact ⟨rfl, NN.out⟩
set_option maxHeartbeats 4000000 in
set_option maxRecDepth 100000 in
theorem compile_oLoop (B ob : Nat) (L : Lo) (o : OS) (w : World) (H : OIs w B ob L o) (W : Wo o) (hB : B ≤ w.heap.size) (d : Dr) (hd : o.draft = some d) (ho : d.s.O.length < 4900) :
    Calls Tryz.prog 57 #[.pointer (some ⟨ob, 0, none⟩), .string ⟨#[76, 79, 79, 80]⟩] w (Did w B ob L o (Ou.wv o fun s => Wv.formR s ⟨#[76, 79, 79, 80]⟩)) := by
  have c14 := draft_cell H hd
  have d0 : w.cell? ⟨L.db, 0, none⟩ = some (.pointer (some ⟨L.da.sb, 0, none⟩)) := (H.dblk hd).cell 0
  have d2 : w.cell? ⟨L.db, 2, none⟩ = some (.int .i64 d.at_) := (H.dblk hd).cell 2
  have HP := Lib.hid (form_did H W hd ho ⟨#[76, 79, 79, 80]⟩ (by decide))
  have eu : (⟨(ups ⟨#[76, 79, 79, 80]⟩).toArray⟩ : ByteArray) = ⟨#[76, 79, 79, 80]⟩ := by rfl
  rw [eu] at HP
  clear H W hB hd ho eu
  go_enter Tryz.func57, Tryz.ntmps57
  go_wp2_with fail
  refine HP.out.mono ?_
  rintro e w2 ⟨rfl, N⟩
  have NN := Lib.hid N
  clear N
  go_wp2_with fail
  go_ret
  exact ⟨rfl, NN.out⟩
set_option maxHeartbeats 4000000 in
set_option maxRecDepth 100000 in
theorem compile_oPlus (B ob : Nat) (L : Lo) (o : OS) (w : World) (H : OIs w B ob L o) (W : Wo o) (hB : B ≤ w.heap.size) (d : Dr) (hd : o.draft = some d) (ho : d.s.O.length < 4900) :
    Calls Tryz.prog 57 #[.pointer (some ⟨ob, 0, none⟩), .string ⟨#[43, 76, 79, 79, 80]⟩] w (Did w B ob L o (Ou.wv o fun s => Wv.formR s ⟨#[43, 76, 79, 79, 80]⟩)) := by
  have c14 := draft_cell H hd
  have d0 : w.cell? ⟨L.db, 0, none⟩ = some (.pointer (some ⟨L.da.sb, 0, none⟩)) := (H.dblk hd).cell 0
  have d2 : w.cell? ⟨L.db, 2, none⟩ = some (.int .i64 d.at_) := (H.dblk hd).cell 2
  have HP := Lib.hid (form_did H W hd ho ⟨#[43, 76, 79, 79, 80]⟩ (by decide))
  have eu : (⟨(ups ⟨#[43, 76, 79, 79, 80]⟩).toArray⟩ : ByteArray) = ⟨#[43, 76, 79, 79, 80]⟩ := by rfl
  rw [eu] at HP
  clear H W hB hd ho eu
  go_enter Tryz.func57, Tryz.ntmps57
  go_wp2_with fail
  refine HP.out.mono ?_
  rintro e w2 ⟨rfl, N⟩
  have NN := Lib.hid N
  clear N
  go_wp2_with fail
  go_ret
  exact ⟨rfl, NN.out⟩
set_option maxHeartbeats 4000000 in
set_option maxRecDepth 100000 in
theorem compile_literal (B ob : Nat) (L : Lo) (o : OS) (w : World) (H : OIs w B ob L o) (W : Wo o) (hB : B ≤ w.heap.size) (d : Dr) (hd : o.draft = some d) :
    Calls Tryz.prog 57 #[.pointer (some ⟨ob, 0, none⟩), .string ⟨#[76, 73, 84, 69, 82, 65, 76]⟩] w (Did w B ob L o (litPop o)) := by
  have c14 := draft_cell H hd
  have d0 : w.cell? ⟨L.db, 0, none⟩ = some (.pointer (some ⟨L.da.sb, 0, none⟩)) := (H.dblk hd).cell 0
  have d2 : w.cell? ⟨L.db, 2, none⟩ = some (.int .i64 d.at_) := (H.dblk hd).cell 2
  have HP := Lib.hid (pop_any B ob L o w H W.m.ns)
  have HK := Lib.hid (pop_kept o W)
  have HE : Hid (litPop o = if (pop o).2.1 ≠ 0 then ((pop o).2.1, (pop o).2.2) else lit (pop o).2.2 (pop o).1) := rfl
  have HD : Hid ((pop o).2.2.draft = some d) := HK.out.2.2.2.1.trans hd
  clear H W hB hd HK
  generalize pop o = r at *
  obtain ⟨v, c, o2⟩ := r
  go_enter Tryz.func57, Tryz.ntmps57
  go_wp2_with fail
  refine HP.out.mono ?_
  rintro e w2 ⟨rfl, L2, N2, K2, hda, hdb⟩
  have HN2 := Lib.hid N2
  have HK2 := Lib.hid K2
  by_cases hc : c = 0
  · subst hc
    have HE := Lib.hid (HE.out.trans (if_neg (by simp)))
    have HA := Lib.hid (arg_did (⟨N2.held, K2⟩ : OIs w2 B ob L2 o2) HD.out 2 v)
    rw [hda] at HA
    clear N2 K2 hda hdb HP d0 d2 c14
    go_wp2_with fail
    refine HA.out.mono ?_
    rintro e w3 ⟨rfl, N3⟩
    have NN := Lib.hid (Nx.step HN2.out N3)
    clear N3
    go_wp2_with fail
    go_ret
    rw [HE.out]
    exact ⟨rfl, NN.out⟩
  · have HE := Lib.hid (HE.out.trans (if_pos hc))
    have hcd : decide (c = 0) = false := by simpa using hc
    have hcb : (c == 0) = false := by simpa using hc
    clear N2 K2 hda hdb HP d0 d2 c14
    go_wp2_with fail
    go_ret
    rw [HE.out]
    exact ⟨rfl, L2, HN2.out, HK2.out⟩
set_option maxHeartbeats 4000000 in
set_option maxRecDepth 100000 in
theorem compile_btick (B ob : Nat) (L : Lo) (o : OS) (w : World) (H : OIs w B ob L o) (W : Wo o) (hB : B ≤ w.heap.size) (d : Dr) (hd : o.draft = some d) :
    Calls Tryz.prog 57 #[.pointer (some ⟨ob, 0, none⟩), .string ⟨#[91, 39, 93]⟩] w (Did w B ob L o (if (findO o).2.1 ≠ 0 then ((findO o).2.1, (findO o).2.2) else lit (findO o).2.2 (findO o).1.xt)) := by
  have c14 := draft_cell H hd
  have d0 : w.cell? ⟨L.db, 0, none⟩ = some (.pointer (some ⟨L.da.sb, 0, none⟩)) := (H.dblk hd).cell 0
  have d2 : w.cell? ⟨L.db, 2, none⟩ = some (.int .i64 d.at_) := (H.dblk hd).cell 2
  generalize hT : (if (findO o).2.1 ≠ 0 then ((findO o).2.1, (findO o).2.2) else lit (findO o).2.2 (findO o).1.xt) = T
  have HE := Lib.hid hT
  clear hT
  have HP := Lib.hid (findO_any B ob L o w H W)
  have HK := Lib.hid (findO_kept o W)
  have HB := Lib.hid hB
  unfold FindPost at HP
  have HD : Hid ((findO o).2.2.draft = some d) := HK.out.1.draft.trans hd
  clear H W hB hd
  generalize findO o = r at *
  obtain ⟨x, c, o2⟩ := r
  dsimp only at HP HK HE
  unfold wdC at HP
  go_enter Tryz.func57, Tryz.ntmps57
  go_wp2_with fail
  refine HP.out.mono ?_
  rintro e w2 ⟨rfl, L2, N2, K2, hda, hdb⟩
  have HN2 := Lib.hid N2
  have HK2 := Lib.hid K2
  have B2 := Lib.hid (Blk.new w2 62 #[.string x.name, .int .i64 x.xt, .int .i64 x.op, .bool x.imm])
  have HT := Lib.hid (N2.trans (Turns.lone N2.held (.cells #[.string x.name, .int .i64 x.xt, .int .i64 x.op, .bool x.imm] 62)))
  have HI2 : Hid (OIs (w2.alloc (.cells #[.string x.name, .int .i64 x.xt, .int .i64 x.op, .bool x.imm] 62)) B ob L2 o2) := ⟨HT.out.held, K2⟩
  have q1 := B2.out.cell 1
  simp only [List.getElem?_toArray, List.getElem?_cons_zero, List.getElem?_cons_succ] at q1
  by_cases hc : c = 0
  · subst hc
    have HA := Lib.hid (arg_did HI2.out HD.out 2 x.xt)
    rw [hda] at HA
    clear N2 K2 hda hdb HP c14 d0 d2
    go_wp2_with fail
    refine HA.out.mono ?_
    rintro e w3 ⟨rfl, N3⟩
    have NN := Lib.hid (Nx.step HT.out N3)
    clear N3
    go_wp2_with fail
    go_ret
    rw [← HE.out, if_neg (show ¬ ((0 : Int) ≠ 0) from by simp)]
    exact ⟨rfl, NN.out⟩
  · have hcd : decide (c = 0) = false := by simpa using hc
    have hcb : (c == 0) = false := by simpa using hc
    have HC := Lib.hid hc
    clear N2 K2 hda hdb HP q1
    go_wp2_with fail
    go_ret
    rw [← HE.out, if_pos HC.out]
    exact ⟨rfl, L2, HT.out, HK2.out⟩
theorem compile_any (B ob : Nat) (L : Lo) (o : OS) (w : World) (H : OIs w B ob L o) (W : Wo o) (hB : B ≤ w.heap.size) (d : Dr) (hd : o.draft = some d) (ho : d.s.O.length < 4900) (hl : o.laid.length ≤ 1000000000) (u : List UInt8) (hu : ownC u = 2) :
    Calls Tryz.prog 57 #[.pointer (some ⟨ob, 0, none⟩), .string ⟨u.toArray⟩] w (Did w B ob L o (compile o u)) := by
  have hm : u = oSemi ∨ u = oBtick ∨ u = oExit ∨ u = oI ∨ u = oJ ∨ u = oUnloop ∨ u = oRecurse ∨ u = oLiteral ∨ u = oIf ∨ u = oElse ∨ u = oThen ∨ u = oBegin ∨ u = oUntil ∨ u = oAgain ∨ u = oWhile ∨ u = oRepeat ∨ u = oDo ∨ u = oLoop ∨ u = oPlus := by
    unfold ownC at hu
    split at hu
    · omega
    split at hu
    · rename_i h
      simpa [busyL] using h
    split at hu
    · omega
    · omega
  rcases hm with rfl | rfl | rfl | rfl | rfl | rfl | rfl | rfl | rfl | rfl | rfl | rfl | rfl | rfl | rfl | rfl | rfl | rfl | rfl
  · exact compile_semi B ob L o w H W hB d hd hl
  · exact compile_btick B ob L o w H W hB d hd
  · exact compile_exit B ob L o w H W hB d hd
  · exact compile_i B ob L o w H W hB d hd
  · exact compile_j B ob L o w H W hB d hd
  · exact compile_unloop B ob L o w H W hB d hd
  · exact compile_recurse B ob L o w H W hB d hd
  · exact compile_literal B ob L o w H W hB d hd
  · exact compile_oIf B ob L o w H W hB d hd ho
  · exact compile_oElse B ob L o w H W hB d hd ho
  · exact compile_oThen B ob L o w H W hB d hd ho
  · exact compile_oBegin B ob L o w H W hB d hd ho
  · exact compile_oUntil B ob L o w H W hB d hd ho
  · exact compile_oAgain B ob L o w H W hB d hd ho
  · exact compile_oWhile B ob L o w H W hB d hd ho
  · exact compile_oRepeat B ob L o w H W hB d hd ho
  · exact compile_oDo B ob L o w H W hB d hd ho
  · exact compile_oLoop B ob L o w H W hB d hd ho
  · exact compile_oPlus B ob L o w H W hB d hd ho
end Go.Proofs.YtompdfpjmdnhoabGreatDoor.Ou
namespace Go.Proofs.YtompdfpjmdnhoabGreatDoor.Ou
open Go.RowKit Go.Proofs.YtompdfpjmdnhoabGreatDoor.Rs Go.Proofs.YtompdfpjmdnhoabGreatDoor.Src
theorem immediate_no (wb B : Nat) (wv : Value) (ws : List Wd) (w : World) (H : Held w B (wRes wb wv ws)) (h : ws.length = 0) :
    Calls Tryz.prog 85 #[.pointer (some ⟨wb, 0, none⟩)] w fun e w' => e = .returned (.bool false) ∧ w = w' := by
  have HL := Lib.hid (len_any wb B wv ws w H)
  rw [h] at HL
  clear H h
  go_enter Tryz.func85, Tryz.ntmps85
  go_wp2_with fail
  refine HL.out.mono ?_
  rintro e w2 ⟨rfl, rfl⟩
  go_wp2_with fail
  go_ret
  exact ⟨rfl, rfl⟩
set_option maxHeartbeats 4000000 in
set_option maxRecDepth 100000 in
theorem all_any (wb B : Nat) (wv : Value) (ws : List Wd) (w : World) (H : Held w B (wRes wb wv ws)) (hn : 0 < ws.length) (hws : ws.length ≤ 1000) :
    Calls Tryz.prog 125 #[.pointer (some ⟨wb, 0, none⟩)] w fun e w' => ∃ v, e = .returned v ∧ Row w' w.heap.size 62 4 v ws.length (wdsV ws) ∧ Below w.heap.size w w' := by
  obtain ⟨A, c, rfl⟩ := (w_row H).slice
  have hr := w_row H
  obtain ⟨g, c', hv, hcap, hbg, hg, hcell, hfz⟩ := hr.form hn
  injection hv with hv1 _ hv3
  subst hv1 hv3
  have d0 : w.cell? ⟨wb, 0, none⟩ = some (.slice (some ⟨g, 0, none⟩) ws.length (c' + 1)) := (w_blk H).cell 0
  have HC : Hid (Calls Tryz.prog 145 #[.slice (some ⟨g, 0, none⟩) ws.length (c' + 1)] w fun e w' => ∃ v, e = .returned v ∧ Row w' w.heap.size 62 4 v ws.length (wdsV ws) ∧ Below w.heap.size w w') := by
    show Calls _ _ _ _ _
    obtain ⟨i0, hi0, hz0, hz1, hz2⟩ := info_parts infoWord
    have hr1 := Lib.hid (Row.reads (hr.touch (alloc_touch w (.cells #[] 62) (fun _ => False)) (fun _ _ => id)))
    have hB1 : Hid (w.heap.size ≤ (w.alloc (.cells #[] 62)).heap.size) := by show _ ≤ _; simp
    have hk := Lib.hid ((Below.refl w.heap.size w).alloc (Nat.le_refl _) (.cells #[] 62))
    have hb1 : 0 + ws.length ≤ maxLen := by unfold maxLen; omega
    have hb2 : (0 + ws.length) * 40 ≤ 140737488355328 := by omega
    have hb1 := Lib.hid hb1
    have hb2 := Lib.hid hb2
    have hcmp : ∀ w : World, (binOp .eql 57 (.slice (some ⟨g, 0, none⟩) ws.length (c' + 1)) (.slice none 0 0)).run Tryz.prog w = .ok (.bool false) w := fun w => by rw [Lib.run_eql_slice_nil w _ _ _ _ _ _ _ Tryz.underlying57]; rfl
    clear H hr d0 hcell hfz hn hws
    go_enter Tryz.func145, Tryz.ntmps145
    go_wp2_with (at_builtin; refine wpList_append_row _ rfl _ _ 57 rfl w.heap.size 62 i0 _ 4 40 Tryz.underlying57 hi0 hz0 hz1 hz2 rfl (by decide) (.slice (some ⟨w.heap.size, 0, none⟩) 0 0) 0 [] rfl (Row.nil _ _ _ _ _) _ (some ⟨g, 0, none⟩) ws.length (c' + 1) (wdsV ws) rfl hr1.out (wdsV_one ws) hb1.out hb2.out hB1.out ?_)
    intro v' w2 hrow hgr hv
    have hk2 : Below w.heap.size w w2 := hk.out.trans ((Touch.of_grown (S := fun _ => False) hgr (fun k h => by simp [roomBlock] at h)).below (fun k h => h.elim) hB1.out)
    have HR : Hid (Row w2 w.heap.size 62 4 v' ws.length (wdsV ws)) := by
      show Row _ _ _ _ _ _ _
      simpa using hrow
    have HK := Lib.hid hk2
    clear hrow hgr hv hk2
    go_wp2_with fail
    go_ret
    exact ⟨_, rfl, HR.out, HK.out⟩
  clear H hr hcell hfz hn hws
  go_enter Tryz.func125, Tryz.ntmps125
  go_wp2_with fail
  refine HC.out.mono ?_
  rintro e w2 ⟨v, rfl, R, k⟩
  have HR := Lib.hid R
  have HK := Lib.hid k
  clear R k HC
  go_wp2_with fail
  go_ret
  exact ⟨_, rfl, HR.out, HK.out⟩
theorem same_refl (n : ByteArray) : same n n = true := by simp [same]
theorem findIx_own {ws : List Wd} {n : ByteArray} : ∀ (k j : Nat), j < k → same (ws.getD j wd0).name n = true → findIx ws n k ≠ none
  | 0, _, h, _ => absurd h (Nat.not_lt_zero _)
  | k + 1, j, h, hs => by
    unfold findIx
    split
    · exact fun h => by cases h
    · rename_i hk
      have hjk : j ≠ k := fun e => hk (e ▸ hs)
      exact findIx_own k j (by omega) hs
theorem mem_own {ws : List Wd} {x : Wd} (h : x ∈ ws) : findIx ws x.name ws.length ≠ none := by
  obtain ⟨j, hj, e⟩ := List.getElem_of_mem h
  refine findIx_own _ j hj ?_
  rw [List.getD_eq_getElem?_getD, List.getElem?_eq_getElem hj, Option.getD_some, e]
  exact same_refl _
theorem findO_mem {o : OS} (h : (findO o).2.1 = 0) : (findO o).1 ∈ (findO o).2.2.words := by
  unfold findO at h ⊢
  dsimp only at h ⊢
  split at h
  · rename_i h1; exact absurd h h1
  · rename_i h1
    rw [if_neg h1]
    split at h
    · rename_i x hx
      exact find_mem hx
    · cases h
def fgK (o : OS) (a k : Nat) : OS := { o with laid := o.laid ++ cellsFrom a k }
theorem fgK_succ (o : OS) (a k : Nat) : fgK o a (k + 1) = { fgK o a k with laid := (fgK o a k).laid ++ [((a + k : Nat) : Int)] } := by
  unfold fgK
  rw [cellsFrom_succ, List.append_assoc]
theorem lt_int {a b : Nat} (h : a < b) : (a : Int) < (b : Int) := by omega
theorem not_lt_int {a b : Nat} (h : ¬ a < b) : ¬ (a : Int) < (b : Int) := by omega
theorem laid_le2 (o : OS) (a k n : Nat) (hl : o.laid.length ≤ 1000000000) (b : k ≤ n) (c : n ≤ 5000) : (o.laid ++ cellsFrom a k).length ≤ 1000005000 := by rw [List.length_append, cellsFrom_length]; omega
theorem sub_lt2 {g m x j : Nat} (h : g = m - x - j) (h2 : x + j < m) : m - x - (j + 1) < g := by omega
theorem wrap_small {k : Nat} (h : k ≤ 1000000) : wrap64 ((k : Int)) = (k : Int) := by unfold wrap64; omega
theorem wrap_inc {k : Nat} (h : k ≤ 1000000) : wrap64 ((k : Int) + 1) = ((k + 1 : Nat) : Int) := by unfold wrap64; omega
theorem wrap_pred {k : Nat} (h : k ≤ 1000000) : wrap64 (((k + 1 : Nat) : Int) - 1) = (k : Int) := by unfold wrap64; omega
set_option maxHeartbeats 8000000 in
set_option maxRecDepth 100000 in
theorem forget_any (B ob : Nat) (L : Lo) (o : OS) (w : World) (H : OIs w B ob L o) (W : Wo o) (hB : B ≤ w.heap.size) (hl : o.laid.length ≤ 1000000000) :
    Calls Tryz.prog 86 #[.pointer (some ⟨ob, 0, none⟩)] w (Did w B ob L o (forget o)) := by
  generalize hT : forget o = T
  have HE : Hid ((if (findO o).2.1 ≠ 0 then ((findO o).2.1, (findO o).2.2) else forgetX (findO o).2.2 (findO o).1) = T) := hT
  clear hT
  have HP := Lib.hid (findO_any B ob L o w H W)
  have HK := Lib.hid (findO_kept o W)
  have HM := Lib.hid (fun h => findO_mem (o := o) h)
  have HL : Hid ((findO o).2.2.laid.length ≤ 1000000000) := by show _ ≤ _; rw [HK.out.1.laid]; exact hl
  have HB := Lib.hid hB
  have HML : Hid (o.m.mem.length ≤ 3000) := W.m.nm
  unfold FindPost at HP
  clear H W hB hl
  generalize findO o = r at *
  obtain ⟨x, c, o2⟩ := r
  dsimp only at HP HK HE HM HL
  have HML2 : Hid (o2.m.mem.length ≤ 3000) := by show _ ≤ _; rw [HK.out.1.kept.mem]; exact HML.out
  unfold wdC at HP
  go_enter Tryz.func86, Tryz.ntmps86
  go_wp2_with fail
  refine HP.out.mono ?_
  rintro e w2 ⟨rfl, L2, N2, K2, _, _⟩
  have HK2 := Lib.hid K2
  have B2 := Lib.hid (Blk.new w2 62 #[.string x.name, .int .i64 x.xt, .int .i64 x.op, .bool x.imm])
  have HT := Lib.hid (N2.trans (Turns.lone N2.held (.cells #[.string x.name, .int .i64 x.xt, .int .i64 x.op, .bool x.imm] 62)))
  have HI2 : Hid (OIs (w2.alloc (.cells #[.string x.name, .int .i64 x.xt, .int .i64 x.op, .bool x.imm] 62)) B ob L2 o2) := ⟨HT.out.held, K2⟩
  have HS2 : Hid (w2.heap.size < (w2.alloc (.cells #[.string x.name, .int .i64 x.xt, .int .i64 x.op, .bool x.imm] 62)).heap.size) := by show _ < _; simp
  have HFr : Hid (w2.heap.size ∉ blks (oRes ob L2 o2)) := fun hk => absurd (N2.held.low hk).2 (Nat.lt_irrefl _)
  clear N2 K2 HP
  by_cases hc : c = 0
  · subst hc
    have q0 := B2.out.cell 0
    have q1 := B2.out.cell 1
    simp only [List.getElem?_toArray, List.getElem?_cons_zero, List.getElem?_cons_succ] at q0 q1
    have HE1 : Hid (forgetX o2 x = T) := (if_neg (by simp)).symm.trans HE.out
    have Wk := Lib.hid HK.out.1.kept.wo
    have HX := Lib.hid (HK.out.2 rfl)
    have HMm := Lib.hid (HM.out rfl)
    clear HE
    by_cases hx : x.xt < 192
    · have HE2 : Hid ((-13, o2) = T) := by show _ = _; rw [← HE1.out]; unfold forgetX; rw [if_pos hx]
      go_wp2_with fail
      go_ret
      rw [← HE2.out]
      exact ⟨rfl, L2, HT.out, HK2.out⟩
    · obtain ⟨xnm, xxt, xop, ximm⟩ := x
      obtain ⟨xn, hxn⟩ : ∃ xn : Nat, xxt = (xn : Int) := Int.eq_ofNat_of_zero_le HX.out.lo
      subst hxn
      have c10 := words_cell HI2.out
      have hnp : 0 < o2.words.length := List.length_pos_of_mem HMm.out
      have hw200 := Wk.out.wlen
      have HAll := Lib.hid (all_any L2.wb B L2.wv o2.words _ HI2.out.words hnp (Nat.le_trans hw200 (by decide)))
      obtain ⟨k0, hk0⟩ : ∃ k0, findIx o2.words xnm o2.words.length = some k0 := Option.ne_none_iff_exists'.1 (mem_own HMm.out)
      have HE2 : Hid ((0, { o2 with words := o2.words.take k0, here := xn, laid := o2.laid ++ cellsFrom xn (o2.m.mem.length - xn) }) = T) := by show _ = _; rw [← HE1.out]; unfold forgetX; rw [if_neg hx, hk0]; rfl
      obtain ⟨n, hn⟩ : ∃ n, o2.words.length = n + 1 := ⟨o2.words.length - 1, by omega⟩
      have HN := Lib.hid hn
      have HKx := Lib.hid hk0
      have HW200 := Lib.hid hw200
      have hwp := Lib.hid (wrap_pred (k := n) (by omega))
      have hwp2 := Lib.hid (wrap_small (k := n) (by omega))
      have hxd : decide ((xn : Int) < 192) = false := by simpa using hx
      have HXn : Hid (xn ≤ o2.m.mem.length) := by
        have h := HX.out.in_ (by have : ¬ (xn : Int) < 192 := hx; show (192 : Int) ≤ (xn : Int); omega)
        have h2 := HK.out.1.kept.mem
        show xn ≤ o2.m.mem.length
        rw [h2]
        exact Int.ofNat_le.1 h
      have HSX : Hid (xnm.size ≤ 100000) := right_small HX.out.nm
      clear hnp hw200 hk0 hn
      go_wp2_with fail
      refine HAll.out.mono ?_
      rintro e w3 ⟨va, rfl, RA, k3⟩
      have HT3 := Lib.hid (HT.out.trans (Turns.of_below HI2.out.held k3 (Nat.le_refl _)))
      have B3 := Lib.hid (B2.out.below k3 (B2.out.lt))
      obtain ⟨ga, ca, hva⟩ := RA.slice
      subst hva
      have HRA := Lib.hid RA
      have HSz := Lib.hid k3.size
      rw [HN.out] at HRA ⊢
      clear RA k3 HAll c10 q0 q1
      go_wp2_with fail
      rw [hwp2.out]
      have HKx2 : Hid (findIx o2.words xnm (n + 1) = some k0) := by show _ = _; rw [← HN.out]; exact HKx.out
      clear hwp HK HM HX HKx
      go_loopg [6] (n + 1) (fun gg v6 wr => ∃ k : Nat, gg = k + 1 ∧ v6 = .int .i64 k ∧ k ≤ n ∧ Hid (findIx o2.words xnm (k + 1) = some k0) ∧ Hid (Turns w B (oRes ob L o) (oRes ob L2 o2) wr) ∧ Hid (Row wr (w2.alloc (.cells #[.string xnm, .int .i64 (xn : Int), .int .i64 xop, .bool ximm] 62)).heap.size 62 4 (.slice ga (n + 1) ca) (n + 1) (wdsV o2.words)) ∧ Hid (Blk wr w2.heap.size 62 #[.string xnm, .int .i64 (xn : Int), .int .i64 xop, .bool ximm]))
      case atStart => exact ⟨n, rfl, rfl, Nat.le_refl _, HKx2, HT3, HRA, B3⟩
      case round =>
        obtain ⟨k, hgg, rfl, hk, hix, HTr, HRr, HBr⟩ := hrel
        have Hgg := Lib.hid hgg
        clear hgg HT3 HRA B3
        have hlt : k < o2.words.length := by rw [HN.out]; exact Nat.lt_succ_of_le hk
        obtain ⟨g, c', hv, hcap, hbg, hg, hcell, hfz⟩ := HRr.out.form (Nat.succ_pos n)
        injection hv with hv1 _ hv3
        subst hv1 hv3
        have x0 : wr.cell? ⟨g, k * 4, none⟩ = some (.string (o2.words.getD k wd0).name) := (hcell (k * 4 + 0) (by omega)).trans (wdsV_get o2.words k hlt 0 (by decide))
        have q0 := HBr.out.cell 0
        have q1 := HBr.out.cell 1
        simp only [List.getElem?_toArray, List.getElem?_cons_zero, List.getElem?_cons_succ] at q0 q1
        have hmem : o2.words.getD k wd0 ∈ o2.words := by rw [List.getD_eq_getElem?_getD, List.getElem?_eq_getElem hlt]; exact List.getElem_mem _
        have HSm := Lib.hid (same_any (o2.words.getD k wd0).name xnm (wr.drewN 1) (Wk.out.names _ hmem) HSX.out)
        have HXx : Hid ((if same (o2.words.getD k wd0).name xnm = true then some k else findIx o2.words xnm k) = some k0) := hix.out
        have hki : (k : Int) < ((n + 1 : Nat) : Int) := lt_int (Nat.lt_succ_of_le hk)
        have hk0i : (0 : Int) ≤ (k : Int) := Int.natCast_nonneg _
        have hks : k ≤ 1000000 := Nat.le_trans (Nat.le_of_lt hlt) (Nat.le_trans HW200.out (by decide))
        have Hkn := Lib.hid hk
        have Hlt := Lib.hid hlt
        generalize o2.words.getD k wd0 = y at *
        clear hmem hcell hfz hix hlt
        cases hs : same y.name xnm with
        | false =>
          rw [hs] at HSm
          have HX0 : Hid (findIx o2.words xnm k = some k0) := (if_neg (by rw [hs]; simp)).symm.trans HXx.out
          cases k with
          | zero => cases HX0.out
          | succ k =>
            have HWp := Lib.hid (wrap_pred (k := k) (by omega))
            have HWs := Lib.hid (wrap_small (k := k) (by omega))
            clear hks HXx hs
            go_upto_region 8 with fail
            go_region_with ((go_at_call 51; refine HSm.out.mono ?_; rintro e w4 ⟨rfl, q, rfl⟩))
            all_goals
              clear x0 q0 q1
              go_wp2_with fail
              first | rw [HWp.out] | rw [HWs.out] | skip
              go_roundg (k + 1)
              case rel => exact ⟨k, rfl, rfl, Nat.le_of_succ_le Hkn.out, HX0, Lib.hid (HTr.out.drewN (1 + q)), HRr, HBr⟩
              case measure => rw [Hgg.out]; exact Nat.lt_succ_self _
        | true =>
          rw [hs] at HSm
          have hkk : k = k0 := Option.some.inj ((if_pos hs).symm.trans HXx.out)
          subst hkk
          clear HXx hs
          go_upto_region 8 with fail
          go_region_with ((go_at_call 51; refine HSm.out.mono ?_; rintro e w4 ⟨rfl, q, rfl⟩))
          all_goals
            have H4 : OIs wr B ob L2 o2 := ⟨HTr.out.held, HK2.out⟩
            have c10 := words_cell H4
            have HCut := Lib.hid (cut_any L2.wb B L2.wv o2.words k (wr.drewN (1 + q)) (H4.words.drewN (1 + q)) (Nat.le_of_lt Hlt.out) (Nat.le_trans HW200.out (by decide)))
            have HH4 := Lib.hid (H4.drewN (1 + q))
            have HT4 := Lib.hid (HTr.out.drewN (1 + q))
            have HB4 : Hid (Blk (wr.drewN (1 + q)) w2.heap.size 62 #[.string xnm, .int .i64 (xn : Int), .int .i64 xop, .bool ximm]) := HBr.out
            clear HTr HBr HRr HSm x0 q0 q1 hki H4 hk0i hks hx hxd hk
            go_wp2_with fail
            refine HCut.out.mono ?_
            rintro e w5 ⟨rfl, wv', N5⟩
            obtain ⟨NW, KW⟩ := words_turns HH4.out N5
            have HB5 : Blk w5 w2.heap.size 62 #[.string xnm, .int .i64 (xn : Int), .int .i64 xop, .bool ximm] := (NW.touch.block _ HB4.out.lt HFr.out).trans HB4.out
            have H5 : OIs w5 B ob { L2 with wv := wv' } { o2 with words := o2.words.take k } := ⟨NW.held, KW⟩
            have c11 := here_cell H5
            have f11 := H5.frozen 11
            have q1 := HB5.cell 1
            simp only [List.getElem?_toArray, List.getElem?_cons_zero, List.getElem?_cons_succ] at q1
            have NH := o_set (o' := { o2 with words := o2.words.take k, here := xn }) H5 11 (.int .i64 (xn : Int)) rfl rfl
            have HT6 := Lib.hid ((HT4.out.trans NW).trans NH)
            have HK6 : Hid (Lok { L2 with wv := wv' } { o2 with words := o2.words.take k, here := xn }) := ⟨H5.lok.line, H5.lok.draft, H5.lok.pos⟩
            have HE6 : Hid ((0, fgK { o2 with words := o2.words.take k, here := xn } xn (o2.m.mem.length - xn)) = T) := HE2.out
            clear NW KW HB5 H5 NH N5 c10 HCut HH4 HB4 HT4 HE2 HE1
            have hc6 : (w5.setCell ⟨ob, 11, none⟩ (.int .i64 (xn : Int))).cell? ⟨ob, 11, none⟩ = some (.int .i64 (xn : Int)) := here_cell (⟨HT6.out.held, HK6.out⟩ : OIs _ B ob { L2 with wv := wv' } { o2 with words := o2.words.take k, here := xn })
            go_wp2_with fail
            clear c11 f11 q1 hc6
            generalize w5.setCell ⟨ob, 11, none⟩ (.int .i64 (xn : Int)) = w6 at *
            have HFL : Hid ((fgK { o2 with words := o2.words.take k, here := xn } xn 0) = { o2 with words := o2.words.take k, here := xn }) := by show fgK _ _ _ = _; unfold fgK cellsFrom; simp
            have HB6 := Lib.hid (Nat.le_trans HB.out HT6.out.size)
            generalize ho4 : ({ o2 with words := o2.words.take k, here := xn } : OS) = o4 at *
            have Hm4 : Hid (o4.m.mem.length = o2.m.mem.length) := by show _ = _; rw [← ho4]
            have Hl4 : Hid (o4.laid.length ≤ 1000000000) := by show _ ≤ _; rw [← ho4]; exact HL.out
            clear ho4
            go_loopg [7] (o2.m.mem.length - xn) (fun gg v7 wr => ∃ j : Nat, gg = o2.m.mem.length - xn - j ∧ v7 = .int .i64 ((xn + j : Nat) : Int) ∧ Hid (xn + j ≤ o2.m.mem.length) ∧ Hid (∃ L', Turns w B (oRes ob L o) (oRes ob L' (fgK o4 xn j)) wr ∧ Lok L' (fgK o4 xn j)) ∧ Hid (B ≤ wr.heap.size))
            case atStart => exact ⟨0, rfl, rfl, HXn, ⟨_, by rw [HFL.out]; exact HT6.out, by rw [HFL.out]; exact HK6.out⟩, HB6⟩
            case round =>
              obtain ⟨j, hgg, rfl, Hj, HR, HBr⟩ := hrel
              have Hgg := Lib.hid hgg
              clear hgg HT6 HK6 HB6 HFL
              obtain ⟨L', T, K⟩ := HR.out
              have HTT := Lib.hid T
              have HKK := Lib.hid K
              clear T K HR
              by_cases hlt : xn + j < o2.m.mem.length
              · have hki : ((xn + j : Nat) : Int) < (o2.m.mem.length : Int) := lt_int hlt
                have hkd : decide (xn + j < o2.m.mem.length) = true := by simpa using hlt
                have hI0 : OIs wr B ob L' (fgK o4 xn j) := ⟨HTT.out.held, HKK.out⟩
                obtain ⟨MA, mc, hmm, c4x⟩ := mem_cell hI0
                have c4 : wr.cell? ⟨ob, 4, none⟩ = some (.slice MA o2.m.mem.length mc) := by rw [← Hm4.out]; exact c4x
                clear c4x hmm
                have Hlk : Hid ((fgK o4 xn j).laid.length ≤ 1000005000) := laid_le2 o4 xn j 5000 Hl4.out (by have := Hj.out; have := HML2.out; omega) (Nat.le_refl _)
                have HS := Lib.hid (fgK_succ o4 xn j)
                have Hlt := Lib.hid hlt
                have HW1 := Lib.hid (wrap_inc (k := xn + j) (by have := Hj.out; have := HML2.out; omega))
                obtain ⟨VA, vc, hlv, c17⟩ := laid_cell hI0
                have Hlv := Lib.hid hlv
                have HI0 := Lib.hid hI0
                generalize fgK o4 xn j = a at *
                obtain ⟨k, hk⟩ : ∃ k, xn + j = k := ⟨_, rfl⟩
                have Hk := Lib.hid hk
                rw [hk] at HW1 HS hki hkd ⊢
                clear hlt hI0 hlv hk
                have HTq := HTT
                have hRow := HI0.out.laid
                rw [Hlv.out] at hRow
                have hrd : Reads (wr.alloc (.cells #[.int .i64 (k : Int)] 3)) (wr.alloc (.cells #[.int .i64 (k : Int)] 3)).heap.size 1 (some ⟨wr.heap.size, 0, none⟩) 1 (ints [(k : Int)]) := by
                  refine ⟨rfl, fun _ => ⟨_, rfl, by simp, fun j u hj => ?_⟩⟩
                  rw [Go.WideShapes.add_plain, World.cell?, heap_alloc_new]
                  simpa [ints] using hj
                have HRD := Lib.hid hrd
                have HB1 : Hid (B ≤ (wr.alloc (.cells #[.int .i64 (k : Int)] 3)).heap.size) := Nat.le_trans HBr.out (by simp)
                have HRA := Lib.hid (hRow.touch ((alloc_touch wr (.cells #[.int .i64 (k : Int)] 3) (fun _ => False))) (fun _ _ => id))
                have HBl : Hid (Below wr.heap.size wr (wr.alloc (.cells #[.int .i64 (k : Int)] 3))) := (Below.refl wr.heap.size wr).alloc (Nat.le_refl _) _
                obtain ⟨i0, hi0, hz0, hz1, hz2⟩ := info_parts Mc.infoInt
                have HCu := Lib.hid hkd
                clear hrd hRow
                go_wp2_with (at_builtin; refine wpList_append_row _ rfl _ _ 31 rfl B 3 i0 (.int .i64 0) 1 8 Tryz.underlying31 hi0 hz0 hz1 hz2 rfl (by decide) (.slice VA a.laid.length vc) a.laid.length (ints a.laid) rfl HRA.out _ _ 1 _ _ rfl HRD.out (ints_one [(k : Int)]) (fits1 Hlk.out).1 (fits1 Hlk.out).2 HB1.out ?_)
                intro v' w3 hrow hg hv
                have hrb : roomBlock (.slice VA a.laid.length vc) = roomBlock L'.lv := by rw [Hlv.out]
                rw [hrb] at hg hv
                have M3 := Lib.hid (laid_turns HI0.out HBl.out rfl hrow hg (by simpa using hv))
                have g0 : w3.cell? ⟨ob, 17, none⟩ = some (.slice VA a.laid.length vc) := by rw [← Hlv.out]; exact M3.out.2.2.cell 17
                have z0 := M3.out.2.2.frozen 17
                obtain ⟨XA, xc, rfl⟩ := hrow.slice
                have T9 := Lib.hid (HTq.out.trans M3.out.1)
                have K9 := Lib.hid M3.out.2.1
                clear hrow hg hv hrb c17 c4 hki hkd M3 HRA HRD HBl HB1 HI0 HTq HTT hi0 hz0 hz1 hz2
                go_wp2_with fail
                rw [HW1.out]
                go_roundg (o2.m.mem.length - xn - (j + 1))
                case rel => exact ⟨j + 1, rfl, by rw [← Hk.out]; rfl, Hlt.out, ⟨_, by rw [HS.out]; exact T9.out, by rw [HS.out]; exact K9.out⟩, Nat.le_trans HB.out T9.out.size⟩
                case measure => exact sub_lt2 Hgg.out Hlt.out
              · have hki := not_lt_int hlt
                have hkd : decide (xn + j < o2.m.mem.length) = false := by simpa using hlt
                have hI0 : OIs wr B ob L' (fgK o4 xn j) := ⟨HTT.out.held, HKK.out⟩
                obtain ⟨MA, mc, hmm, c4x⟩ := mem_cell hI0
                have c4 : wr.cell? ⟨ob, 4, none⟩ = some (.slice MA o2.m.mem.length mc) := by rw [← Hm4.out]; exact c4x
                clear c4x hmm
                have hjj : o2.m.mem.length - xn = j := by have := Hj.out; omega
                have HJ := Lib.hid hjj
                clear hlt hI0 hjj
                obtain ⟨k, hk⟩ : ∃ k, xn + j = k := ⟨_, rfl⟩
                rw [hk] at hki hkd ⊢
                clear hk
                go_wp2_with fail
                go_ret
                rw [← HE6.out, HJ.out]
                exact ⟨rfl, L', HTT.out, HKK.out⟩
  · have hcd : decide (c = 0) = false := by simpa using hc
    have hcb : (c == 0) = false := by simpa using hc
    have HC := Lib.hid hc
    go_wp2_with fail
    go_ret
    rw [← HE.out, if_pos HC.out]
    exact ⟨rfl, L2, HT.out, HK2.out⟩
end Go.Proofs.YtompdfpjmdnhoabGreatDoor.Ou
