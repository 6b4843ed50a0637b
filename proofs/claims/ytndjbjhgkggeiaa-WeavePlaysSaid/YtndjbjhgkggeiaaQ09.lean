/-
  Lemmas on the way, for every input that they name: RvB.
-/
import Derived.Deep.DeepCutAuto
import Derived.Deep.CutBlock
import Derived.Test.YtndjbjhgkggeiaaQ08
set_option linter.unusedVariables false
set_option linter.unusedSimpArgs false
set_option linter.deprecated false
namespace Go.Proofs.Ytndjbjhgkggeiaa.Rv
open Go.RowKit Go.Proofs.Ytndjbjhgkggeiaa.Wv
set_option maxHeartbeats 2000000 in
set_option maxRecDepth 100000 in
theorem lay_full (B : Nat) (a : At) (M : List Int) (h : Nat) (O : List (Int × Int)) (w : World) (H : RvIs w B a M h O) (LA : Option Addr) (m c : Nat) (hm : m ≤ 5000) (hroom : M.length < h + m) :
    Calls Try.prog 31 #[.pointer (some ⟨a.sb, 0, none⟩), .slice LA m c] w fun e w' => e = .returned (.bool false) ∧ ∃ q, w' = w.drewN q := by
  have c0 := H.c0
  have c1 := H.c1
  have hh := H.here
  have hs := H.small
  clear H
  go_enter Try.func31, Try.ntmps31
  go_wp2_with fail
  go_quiet (fail)
  go_wp2_with fail
  go_ret
  exact ⟨rfl, _, rfl⟩
set_option maxHeartbeats 4000000 in
set_option maxRecDepth 100000 in
theorem lay_room (B : Nat) (a : At) (M : List Int) (h : Nat) (O : List (Int × Int)) (w : World) (H : RvIs w B a M h O) (lb : Nat) (L : List Int) (c : Nat)
    (hlb : ¬ a.blocks lb) (hL : ∀ j, j < L.length → w.cell? ⟨lb, j, none⟩ = some (.int .i64 (L.getD j 0))) (hpos : 0 < L.length) (hlen : L.length ≤ 10) (hroom : h + L.length ≤ M.length) :
    Calls Try.prog 31 #[.pointer (some ⟨a.sb, 0, none⟩), .slice (some ⟨lb, 0, none⟩) L.length c] w fun e w' => e = .returned (.bool true) ∧ RvIs w' B a (lay M h L) (h + L.length) O ∧ Touch w w' a.blocks := by
  obtain ⟨g, hA⟩ := mem_addr H (by omega)
  have c0 := H.c0
  rw [hA] at c0
  have c1 := H.c1
  have hh := H.here
  have hs := H.small
  have HH := Lib.hid H
  have HL := Lib.hid hL
  have HL0 := Lib.hid hL
  have HA := Lib.hid hA
  have HB := Lib.hid hlb
  clear H hL hA hlb
  go_enter Try.func31, Try.ntmps31
  go_wp2_with fail
  go_quiet (fail)
  go_wp2_with fail
  have HH1 := Lib.hid (HH.out.drewN nq)
  have HT1 := Lib.hid ((Touch.refl w a.blocks).drewN nq)
  have HL1 : Hid (∀ j, j < L.length → (w.drewN nq).cell? ⟨lb, j, none⟩ = some (.int .i64 (L.getD j 0))) := HL.out
  clear HL c0 c1
  go_loopg [5] L.length (fun gg v wr => ∃ i : Nat, gg = L.length - i ∧ v = .int .i64 (i : Int) ∧ Hid (i ≤ L.length) ∧ Hid (RvIs wr B a (lay M h (L.take i)) (h + i) O) ∧ Hid (Touch w wr a.blocks))
  case atStart => exact ⟨0, rfl, rfl, Nat.zero_le _, by show RvIs (w.drewN nq) B a (lay M h (L.take 0)) (h + 0) O; rw [List.take_zero, lay_zero]; exact HH1.out, HT1.out⟩
  case round =>
    obtain ⟨i, hg, rfl, Hi, HR, HT⟩ := hrel
    have Hg := Lib.hid hg
    clear hg
    by_cases hlt : i < L.length
    · have g1 : (i : Int) < (L.length : Int) := by omega
      have hll : (lay M h (L.take i)).length = M.length := lay_length M h (L.take i) (by simp; omega)
      have c0 := HR.out.c0
      rw [HA.out, hll] at c0
      have c1 := HR.out.c1
      have f1 := HR.out.f1
      have mc := mem_cell HR.out HA.out (h + i) (by rw [hll]; omega)
      have m1 := mc.1
      have m2 := mc.2
      have lc : wr.cell? ⟨lb, i, none⟩ = some (.int .i64 (L.getD i 0)) := touch_cell HT.out (HL0.out i hlt) HB.out
      have hp : ((h + i : Nat) : Int) < (M.length : Int) := by omega
      have hp0 : (0 : Int) ≤ ((h + i : Nat) : Int) := by omega
      obtain ⟨x, hx⟩ : ∃ x, x = L.getD i 0 := ⟨_, rfl⟩
      rw [← hx] at lc
      have HX := Lib.hid hx
      have Hll := Lib.hid hll
      have Hlt := Lib.hid hlt
      clear mc hll hx HL0 hlt
      go_upto_region 6 with fail
      go_cut [] (fun wc => RvIs wc B a ((lay M h (L.take i)).set (h + i) x) (h + i) O ∧ Touch w wc a.blocks)
      case first =>
        go_region_with (fail)
        all_goals
          go_wp2_with fail
          go_meet
          have SD := set_done HR.out HA.out (h + i) x
          exact ⟨SD.1.drewN 1, (HT.out.trans SD.2 (fun _ h => Or.inl h)).drewN 1⟩
      case rest =>
        obtain ⟨H2, T2⟩ := hcut
        rw [HX.out, lay_step M h L i Hlt.out hroom] at H2
        have c1' := H2.c1
        have f1' := H2.f1
        have D2 := here_done H2 (h + i + 1) (by rw [lay_length M h (L.take (i + 1)) (by have := Hlt.out; simp; omega)]; have := Hlt.out; omega)
        have HD := Lib.hid D2.1
        have HT2 := Lib.hid (T2.trans D2.2 (fun _ h => Or.inl h))
        have hpi : ((h + i : Nat) : Int) ≤ 5000 := by omega
        clear D2 H2 T2 c0 c1 f1 m1 m2 lc HR HT
        go_wp2_with fail
        go_roundg (L.length - (i + 1))
        case rel => exact ⟨i + 1, rfl, by go_num, Hlt.out, HD.out, HT2.out⟩
        case measure => rw [Hg.out]; have := Hlt.out; omega
    · obtain rfl : i = L.length := by have := Hi.out; omega
      have g1 : ¬ (L.length : Int) < (L.length : Int) := by omega
      have HR2 := HR.out
      rw [List.take_length] at HR2
      have HF := Lib.hid HR2
      clear HR2 hlt
      go_wp2_with fail
      go_ret
      exact ⟨rfl, HF.out, HT.out⟩
end Go.Proofs.Ytndjbjhgkggeiaa.Rv
