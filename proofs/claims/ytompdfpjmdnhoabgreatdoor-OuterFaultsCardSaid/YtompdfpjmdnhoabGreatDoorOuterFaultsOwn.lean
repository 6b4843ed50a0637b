/-
  Lemmas on the way, for every input that they name: OvG, OqG.
-/
import Derived.Test.YtompdfpjmdnhoabGreatDoorQ36
import Derived.Test.YtompdfpjmdnhoabGreatDoorQ37
set_option linter.unusedVariables false
set_option linter.unusedSimpArgs false
set_option linter.deprecated false
namespace Go.Proofs.YtompdfpjmdnhoabGreatDoor.Ou
open Go.RowKit Go.Proofs.YtompdfpjmdnhoabGreatDoor.Mc
theorem goW_less : ∀ (n : Nat) (o : OS), Wo o → (goW n o).2.1 = true → fuelW (goW n o).2.2 + 1 ≤ fuelW o ∧ (goW n o).2.2.runs = true
  | 0, o, W, h => by cases h
  | n + 1, o, W, h => by
    unfold goW at h ⊢
    dsimp only at h ⊢
    by_cases hr : (read o).2.1 = false
    · rw [if_pos hr] at h; cases h
    · rw [if_neg hr] at h ⊢
      have hr2 : (read o).2.1 = true := by simpa using hr
      have W1 : Wo (read o).2.2 := (read_kept o W).1.kept.wo
      have f1 := fuel_read W hr2
      have k2 := word_kept (read o).2.2 (read o).1 W1
      have f2 := fuel_kept k2
      by_cases h0 : (word (read o).2.2 (read o).1).1 ≠ 0
      · rw [if_pos h0] at h; cases h
      · rw [if_neg h0] at h ⊢
        by_cases hb : (word (read o).2.2 (read o).1).2.runs = true
        · rw [if_pos hb]; exact ⟨by dsimp only; omega, hb⟩
        · rw [if_neg hb] at h ⊢
          obtain ⟨g1, g2⟩ := goW_less n _ k2.wo h
          exact ⟨by omega, g2⟩
theorem goW_code : ∀ (n : Nat) (o : OS), (goW n o).1 ≠ 0 → ∃ o', (goW n o).2.2 = fault o'
  | 0, o, h => absurd rfl h
  | n + 1, o, h => by
    unfold goW at h ⊢
    dsimp only at h ⊢
    by_cases hr : (read o).2.1 = false
    · rw [if_pos hr] at h; exact absurd rfl h
    · rw [if_neg hr] at h ⊢
      by_cases h0 : (word (read o).2.2 (read o).1).1 ≠ 0
      · rw [if_pos h0]; exact ⟨_, rfl⟩
      · rw [if_neg h0] at h ⊢
        by_cases hb : (word (read o).2.2 (read o).1).2.runs = true
        · rw [if_pos hb] at h; exact absurd rfl h
        · rw [if_neg hb] at h ⊢
          exact goW_code n _ h
theorem go_less (o : OS) (W : Wo o) (hs : o.runs = true → o.m.status ≠ 0) (h : (go o).2.1 = true) : fuelW (go o).2.2 + 1 ≤ fuelW o ∧ (go o).2.2.runs = true := by
  unfold go at h ⊢
  by_cases hl : o.line.isSome = false
  · rw [if_pos hl] at h; cases h
  rw [if_neg hl] at h ⊢
  by_cases hr : o.runs = true
  · rw [if_pos hr] at h ⊢
    by_cases h2 : o.m.status = 2
    · rw [if_pos h2] at h; cases h
    rw [if_neg h2, if_neg (hs hr)] at h ⊢
    exact goW_less _ { o with runs := false } (W.runs' false) h
  · rw [if_neg hr] at h ⊢
    exact goW_less _ _ W h
theorem go_code (o : OS) (h : (go o).1 ≠ 0) : ∃ o', (go o).2.2 = fault o' := by
  unfold go at h ⊢
  by_cases hl : o.line.isSome = false
  · rw [if_pos hl] at h; exact absurd rfl h
  rw [if_neg hl] at h ⊢
  by_cases hr : o.runs = true
  · rw [if_pos hr] at h ⊢
    by_cases h2 : o.m.status = 2
    · rw [if_pos h2]; exact ⟨_, rfl⟩
    rw [if_neg h2] at h ⊢
    by_cases h3 : o.m.status = 0
    · rw [if_pos h3] at h; exact absurd rfl h
    rw [if_neg h3] at h ⊢
    exact goW_code _ _ h
  · rw [if_neg hr] at h ⊢
    exact goW_code _ _ h
theorem run_ends : ∀ (f : Nat) (m : Mc.S), (Mc.run f m).2 = 0 ∨ (Mc.run f m).1.status ≠ 0
  | 0, _ => .inl rfl
  | n + 1, m => by
    unfold Mc.run
    by_cases h : m.status = 0
    · rw [if_pos h]; exact run_ends n _
    · rw [if_neg h]; exact .inr h
theorem ends_some : ∀ (n : Nat) (o : OS) (f : Nat), Wo o → fuelW o ≤ n → (o.runs = true → o.m.status ≠ 0) → ∃ m q, Ends m f o q := by
  intro n
  induction n with
  | zero =>
    intro o f W hn hs
    by_cases h : (go o).2.1 = false ∨ f = 0
    · exact ⟨1, _, .inl ⟨h, rfl⟩⟩
    · have hb : (go o).2.1 = true := by cases e : (go o).2.1 with | true => rfl | false => exact absurd (.inl e) h
      have := (go_less o W hs hb).1
      omega
  | succ n ih =>
    intro o f W hn hs
    by_cases h : (go o).2.1 = false ∨ f = 0
    · exact ⟨1, _, .inl ⟨h, rfl⟩⟩
    · have hb : (go o).2.1 = true := by cases e : (go o).2.1 with | true => rfl | false => exact absurd (.inl e) h
      obtain ⟨g1, g2⟩ := go_less o W hs hb
      have W2 := run_wo f (go o).2.2 (go_wo o W).1
      rcases run_ends f (go o).2.2.m with h0 | h0
      · exact ⟨2, _, .inr ⟨h, .inl ⟨.inr h0, rfl⟩⟩⟩
      · obtain ⟨m, q, e⟩ := ih { (go o).2.2 with m := (Mc.run f (go o).2.2.m).1 } (Mc.run f (go o).2.2.m).2 W2 (by show fuelW (go o).2.2 ≤ n; omega) (fun _ => h0)
        exact ⟨m + 1, q, .inr ⟨h, e⟩⟩
theorem ends_code : ∀ (n f : Nat) (o : OS) (q : Int × Nat × OS), Ends n f o q → q.1 ≠ 0 → ∃ o', q.2.2 = fault o'
  | 0, _, _, _, h, _ => h.elim
  | n + 1, f, o, q, h, hc => by
    rcases h with ⟨_, rfl⟩ | ⟨_, h⟩
    · exact go_code o hc
    · exact ends_code n _ _ q h hc
theorem line_ends (o : OS) (W : Wo o) (hr : o.runs = false) (t : ByteArray) (ht : t.size ≤ 600) (f : Nat) : ∃ m q, Ends m f (begin_ o t) q :=
  ends_some _ _ f ((W.line' (some t.data.toList) fun x e => by injection e with e; subst e; exact ht).last' _) (Nat.le_refl _) (fun h => by rw [show (begin_ o t).runs = o.runs from rfl, hr] at h; cases h)
theorem nothing_ends (o : OS) (hr : o.runs = false) : ∃ X, Ends 1 50 (begin_ o ⟨#[]⟩) (0, 50, X) ∧ X.draft = o.draft := by
  have e : go (begin_ o ⟨#[]⟩) = (0, false, { (read (begin_ o ⟨#[]⟩)).2.2 with line := none }) := by
    unfold go
    rw [if_neg (by simp [begin_]), if_neg (by rw [show (begin_ o ⟨#[]⟩).runs = o.runs from rfl, hr]; simp)]
    rfl
  exact ⟨{ (read (begin_ o ⟨#[]⟩)).2.2 with line := none }, .inl ⟨.inl (by rw [e]), by rw [e]⟩, rfl⟩
end Go.Proofs.YtompdfpjmdnhoabGreatDoor.Ou
namespace Go.Proofs.YtompdfpjmdnhoabGreatDoor.Ou
open Go.RowKit Go.Proofs.YtompdfpjmdnhoabGreatDoor.Rs Go.Proofs.YtompdfpjmdnhoabGreatDoor.Src Go.Proofs.YtompdfpjmdnhoabGreatDoor.Ft
theorem compiling_any (B ob : Nat) (L : Lo) (o : OS) (w : World) (H : OIs w B ob L o) (h : o.draft = none) :
    Calls Tryz.prog 13 #[.pointer (some ⟨ob, 0, none⟩)] w fun e w' => e = .returned (.bool false) ∧ w = w' := by
  have c14 := draft_none H h
  clear H h
  go_enter Tryz.func13, Tryz.ntmps13
  go_wp2_with fail
  go_ret
  exact ⟨rfl, rfl⟩
theorem state_kept (w0 : World) (B ob : Nat) (L : Lo) (o : OS) (w : World) (E : Env w0 B w) (H : OIs w B ob L (fault o)) (W : Wo (fault o)) :
    Calls Tryz.prog 12 #[.pointer (some ⟨ob, 0, none⟩)] w fun e w' => ∃ (ip rd code : Int) (A1 A2 A3 : Option Addr) (b1 b2 b3 n : Nat) (out inp : ByteArray), e = .returned (.agg #[.int .i64 ip, .int .i64 0, .slice A1 0 b1, .slice A2 0 b2, .slice A3 n b3, .string out, .string inp, .int .i64 rd, .int .i64 1, .int .i64 code]) ∧ OIs w' B ob L (fault o) ∧ Env w0 B w' ∧ Below w.heap.size w w' := by
  refine (state_any B ob L (fault o) w H W).mono ?_
  rintro e w' ⟨sv, bv, mv, rfl, H2, k⟩
  obtain ⟨A1, b1, rfl⟩ := (H2.row (e := 3) (sz := 1) (v := sv) (n := (fault o).m.stack.length) (xs := ints (fault o).m.stack) (by simp [Mc.stRows])).slice
  obtain ⟨A2, b2, rfl⟩ := (H2.row (e := 3) (sz := 1) (v := bv) (n := (fault o).m.back.length) (xs := ints (fault o).m.back) (by simp [Mc.stRows])).slice
  obtain ⟨A3, b3, rfl⟩ := (H2.row (e := 3) (sz := 1) (v := mv) (n := (fault o).m.mem.length) (xs := ints (fault o).m.mem) (by simp [Mc.stRows])).slice
  exact ⟨o.m.ip, o.m.read, o.m.code, A1, A2, A3, b1, b2, b3, _, o.m.out, o.m.inp, rfl, ⟨(Turns.of_below H.held k (Nat.le_refl _)).held, H.lok⟩, ⟨E.hg, E.tb, E.lo, E.below.trans (k.mono (Nat.le_trans E.lo E.hB)), Nat.le_trans E.hB k.size⟩, k⟩
def fA (X bad : ByteArray) : ByteArray := ⟨#[58, 32, 111, 107, 32]⟩ ++ X ++ ⟨#[32, 59, 32, 49, 32, 50, 32, 51, 32]⟩ ++ bad
set_option maxHeartbeats 8000000 in
set_option maxRecDepth 100000 in
theorem faults_in (a : Int) (ha : Mc.In a) (bad : ByteArray) (hb : bad.size ≤ 60) (w : World) (A : Ahead w w) :
    Calls Tryz.prog 6 #[.int .i64 a, .string bad] w fun e w' => e = .returned (.bool true) ∧ Below w.heap.size w w' := by
  have HAl := Lib.hid (fun w1 A1 => alive_any w w1 A1)
  have HX := Lib.hid (fun w => num_any a ha w)
  obtain ⟨X, eX, sX⟩ := num_some a 10 ha (by decide)
  rw [← eX] at HX
  have hsz : (fA X bad).size ≤ 600 := by
    unfold fA
    simp only [ByteArray.size_append]
    have e1 : (⟨#[58, 32, 111, 107, 32]⟩ : ByteArray).size = 5 := rfl
    have e2 : (⟨#[32, 59, 32, 49, 32, 50, 32, 51, 32]⟩ : ByteArray).size = 9 := rfl
    omega
  have HSz := Lib.hid hsz
  have h1 : decide (60 < bad.size) = false := by simp; omega
  have h2 : decide ((60 : Int) < (bad.size : Int)) = false := by simp; omega
  have h3 : ¬ (60 : Int) < (bad.size : Int) := by omega
  have HNw := Lib.hid (fun w => oNew_any 800 (by decide) (by decide) ⟨#[]⟩ w)
  have HW0 := Lib.hid (new_wo 800 (by decide) ⟨#[]⟩ (by decide))
  have HL0 : Hid (Lim 1 (new Mc.opName 800 ⟨#[]⟩)) := ⟨Nat.zero_le _, (fun d e => by cases e), Nat.le_refl _, by decide⟩
  have HLn : Hid ((new Mc.opName 800 ⟨#[]⟩).line = none) := rfl
  have HRn : Hid ((new Mc.opName 800 ⟨#[]⟩).runs = false) := rfl
  have e800 : ((800 : Nat) : Int) = 800 := rfl
  rw [e800] at HNw
  have HA := Lib.hid A
  clear A eX ha e800 hsz hb
  generalize new Mc.opName 800 ⟨#[]⟩ = o0 at *
  go_enter Tryz.func6, Tryz.ntmps6
  go_wp2_with fail
  refine (HAl.out _ HA.out).mono ?_
  rintro e w1 ⟨rfl, k⟩
  have A1 := Lib.hid (HA.out.next k)
  have K1 := Lib.hid k
  clear k
  go_wp2_with fail
  refine (HNw.out _).mono ?_
  rintro e w2 ⟨ob, L, rfl, I2, k2⟩
  have HI2 := Lib.hid I2
  have HV2 : Hid (Env w w1.heap.size w2) := ⟨A1.out.hg, A1.out.tb, A1.out.lo, A1.out.below.trans (k2.mono A1.out.lo), k2.size⟩
  have HK2 := Lib.hid k2
  clear I2 k2 HNw
  go_wp2_with fail
  refine (HX.out _).mono ?_
  rintro e w3 ⟨rfl, rfl⟩
  obtain ⟨m, q, hE⟩ := line_ends o0 HW0.out HRn.out (fA X bad) HSz.out 2000
  have hkept := ends_kept m 2000 (begin_ o0 (fA X bad)) q 2 hE ((HW0.out.line' (some (fA X bad).data.toList) fun x e => by injection e with e; subst e; exact HSz.out).last' _) (lim_begin HL0.out HLn.out (fA X bad) HSz.out (by decide))
  have HW2 := Lib.hid hkept.1
  have HM2 := Lib.hid hkept.2
  have HLine := Lib.hid (line_any w 1 w1.heap.size ob L o0 w2 HV2.out HI2.out HW0.out HL0.out (by decide) HLn.out (fA X bad) HSz.out 2000 (by decide) m q hE)
  have HCd := Lib.hid (ends_code m 2000 _ q hE)
  have e2 : ((2000 : Nat) : Int) = 2000 := rfl
  rw [e2] at HLine
  unfold fA at HLine
  clear hE hkept e2
  obtain ⟨c, f', o1⟩ := q
  dsimp only at HW2 HM2 HLine HCd
  go_wp2_with fail
  refine HLine.out.mono ?_
  rintro e w4 ⟨rfl, L2, N2, K2⟩
  have HI3 := Lib.hid (HI2.out.next N2 K2)
  have HV3 := Lib.hid (HV2.out.turns HI2.out.held N2)
  have HK3 := Lib.hid (K1.out.trans ((HK2.out.trans (N2.below HV2.out.hB HI2.out.held)).mono K1.out.size))
  clear N2 K2 HLine
  by_cases hc : c = 0
  · have g1 : decide (c = 0) = true := by simpa using hc
    go_wp2_with fail
    go_ret
    exact ⟨rfl, HK3.out⟩
  · have g1 : decide (c = 0) = false := by simpa using hc
    obtain ⟨o', ho⟩ := HCd.out hc
    subst ho
    clear HCd
    have HS4 := Lib.hid (state_kept w w1.heap.size ob L2 o' w4 HV3.out HI3.out HW2.out)
    go_wp2_with fail
    refine HS4.out.mono ?_
    rintro e w5 ⟨ip, rd, code, A1, A2, A3, b1, b2, b3, n, out, inp, rfl, I5, V5, k5⟩
    have HI5 := Lib.hid I5
    have HV5 := Lib.hid V5
    have HK5 := Lib.hid (HK3.out.trans (k5.mono HK3.out.size))
    have fe8 : ∀ W, (Instr.field 33 (.agg #[.int .i64 ip, .int .i64 0, .slice A1 0 b1, .slice A2 0 b2, .slice A3 n b3, .string out, .string inp, .int .i64 rd, .int .i64 1, .int .i64 code]) 8).run Tryz.prog W = .ok (.int .i64 1) W := fun W => by kernel_rfl
    have fe2 : ∀ W, (Instr.field 33 (.agg #[.int .i64 ip, .int .i64 0, .slice A1 0 b1, .slice A2 0 b2, .slice A3 n b3, .string out, .string inp, .int .i64 rd, .int .i64 1, .int .i64 code]) 2).run Tryz.prog W = .ok (.slice A1 0 b1) W := fun W => by kernel_rfl
    have fe3 : ∀ W, (Instr.field 33 (.agg #[.int .i64 ip, .int .i64 0, .slice A1 0 b1, .slice A2 0 b2, .slice A3 n b3, .string out, .string inp, .int .i64 rd, .int .i64 1, .int .i64 code]) 3).run Tryz.prog W = .ok (.slice A2 0 b2) W := fun W => by kernel_rfl
    clear I5 V5 k5 HS4 HI3 HV3 HK3
    have HS5 := Lib.hid (state_kept w w1.heap.size ob L2 o' w5 HV5.out HI5.out HW2.out)
    go_wp2_with fail
    refine HS5.out.mono ?_
    rintro e w6 ⟨ip, rd, code, A1, A2, A3, b1, b2, b3, n, out, inp, rfl, I6, V6, k6⟩
    have HI6 := Lib.hid I6
    have HV6 := Lib.hid V6
    have HK6 := Lib.hid (HK5.out.trans (k6.mono HK5.out.size))
    have fe8 : ∀ W, (Instr.field 33 (.agg #[.int .i64 ip, .int .i64 0, .slice A1 0 b1, .slice A2 0 b2, .slice A3 n b3, .string out, .string inp, .int .i64 rd, .int .i64 1, .int .i64 code]) 8).run Tryz.prog W = .ok (.int .i64 1) W := fun W => by kernel_rfl
    have fe2 : ∀ W, (Instr.field 33 (.agg #[.int .i64 ip, .int .i64 0, .slice A1 0 b1, .slice A2 0 b2, .slice A3 n b3, .string out, .string inp, .int .i64 rd, .int .i64 1, .int .i64 code]) 2).run Tryz.prog W = .ok (.slice A1 0 b1) W := fun W => by kernel_rfl
    have fe3 : ∀ W, (Instr.field 33 (.agg #[.int .i64 ip, .int .i64 0, .slice A1 0 b1, .slice A2 0 b2, .slice A3 n b3, .string out, .string inp, .int .i64 rd, .int .i64 1, .int .i64 code]) 3).run Tryz.prog W = .ok (.slice A2 0 b2) W := fun W => by kernel_rfl
    clear I6 V6 k6 HS5 HI5 HV5 HK5
    have HS6 := Lib.hid (state_kept w w1.heap.size ob L2 o' w6 HV6.out HI6.out HW2.out)
    go_wp2_with fail
    refine HS6.out.mono ?_
    rintro e w7 ⟨ip, rd, code, A1, A2, A3, b1, b2, b3, n, out, inp, rfl, I7, V7, k7⟩
    have HI7 := Lib.hid I7
    have HV7 := Lib.hid V7
    have HK7 := Lib.hid (HK6.out.trans (k7.mono HK6.out.size))
    have fe8 : ∀ W, (Instr.field 33 (.agg #[.int .i64 ip, .int .i64 0, .slice A1 0 b1, .slice A2 0 b2, .slice A3 n b3, .string out, .string inp, .int .i64 rd, .int .i64 1, .int .i64 code]) 8).run Tryz.prog W = .ok (.int .i64 1) W := fun W => by kernel_rfl
    have fe2 : ∀ W, (Instr.field 33 (.agg #[.int .i64 ip, .int .i64 0, .slice A1 0 b1, .slice A2 0 b2, .slice A3 n b3, .string out, .string inp, .int .i64 rd, .int .i64 1, .int .i64 code]) 2).run Tryz.prog W = .ok (.slice A1 0 b1) W := fun W => by kernel_rfl
    have fe3 : ∀ W, (Instr.field 33 (.agg #[.int .i64 ip, .int .i64 0, .slice A1 0 b1, .slice A2 0 b2, .slice A3 n b3, .string out, .string inp, .int .i64 rd, .int .i64 1, .int .i64 code]) 3).run Tryz.prog W = .ok (.slice A2 0 b2) W := fun W => by kernel_rfl
    clear I7 V7 k7 HS6 HI6 HV6 HK6
    have HC := Lib.hid (compiling_any w1.heap.size ob L2 (fault o') w7 HI7.out rfl)
    go_wp2_with fail
    refine HC.out.mono ?_
    rintro e w8 ⟨rfl, rfl⟩
    obtain ⟨X, hX, hd⟩ := nothing_ends (fault o') rfl
    have HXd : Hid (X.draft = none) := hd
    have HL2 := Lib.hid (line_any w 2 w1.heap.size ob L2 (fault o') w7 HV7.out HI7.out HW2.out HM2.out (by decide) rfl ⟨#[]⟩ (by decide) 50 (by decide) 1 _ hX)
    have e50 : ((50 : Nat) : Int) = 50 := rfl
    rw [e50] at HL2
    dsimp only at HL2
    clear hX hd e50 HC
    go_wp2_with fail
    refine HL2.out.mono ?_
    rintro e w9 ⟨rfl, L3, N3, K3⟩
    have HI9 := Lib.hid (HI7.out.next N3 K3)
    have HK9 := Lib.hid (HK7.out.trans ((N3.below HV7.out.hB HI7.out.held).mono K1.out.size))
    have HC2 := Lib.hid (compiling_any w1.heap.size ob L3 X w9 HI9.out HXd.out)
    clear N3 K3 HL2
    go_wp2_with fail
    refine HC2.out.mono ?_
    rintro e w10 ⟨rfl, rfl⟩
    go_wp2_with fail
    go_ret
    exact ⟨rfl, HK9.out⟩
set_option maxHeartbeats 8000000 in
set_option maxRecDepth 100000 in
theorem faults_out (a : Int) (bad : ByteArray) (hb : 60 < bad.size) (w : World) (A : Ahead w w) :
    Calls Tryz.prog 6 #[.int .i64 a, .string bad] w fun e w' => e = .returned (.bool true) ∧ Below w.heap.size w w' := by
  have HAl := Lib.hid (fun w1 A1 => alive_any w w1 A1)
  have h1 : decide (60 < bad.size) = true := by simpa using hb
  have h2 : decide ((60 : Int) < (bad.size : Int)) = true := by simp; omega
  have h3 : (60 : Int) < (bad.size : Int) := by omega
  have HA := Lib.hid A
  clear A
  go_enter Tryz.func6, Tryz.ntmps6
  go_wp2_with fail
  refine (HAl.out _ HA.out).mono ?_
  rintro e w1 ⟨rfl, k⟩
  go_wp2_with fail
  go_ret
  exact ⟨rfl, k⟩
theorem faults_walk (a : Int) (ha : Mc.In a) (bad : ByteArray) (w : World) (A : Ahead w w) :
    Calls Tryz.prog 6 #[.int .i64 a, .string bad] w fun e w' => e = .returned (.bool true) ∧ Below w.heap.size w w' := by
  by_cases h : bad.size ≤ 60
  · exact faults_in a ha bad h w A
  · exact faults_out a bad (by omega) w A
end Go.Proofs.YtompdfpjmdnhoabGreatDoor.Ou
