/-
  Lemmas on the way, for every input that they name: OvL, OvM, OqB.
-/
import Derived.Test.YtompdfpjmdnhoaaGreatDoorQ36
import Derived.Test.YtompdfpjmdnhoaaGreatDoorQ37
set_option linter.unusedVariables false
set_option linter.unusedSimpArgs false
set_option linter.deprecated false
namespace Go.Proofs.YtompdfpjmdnhoaaGreatDoor.Ou
open Go.RowKit Go.Proofs.YtompdfpjmdnhoaaGreatDoor.Mc
def num10 (v : Int) : List UInt8 := Dg.putV v 10 ++ [32]
end Go.Proofs.YtompdfpjmdnhoaaGreatDoor.Ou
namespace Go.Proofs.YtompdfpjmdnhoaaGreatDoor.Ou
open Go.RowKit Go.Proofs.YtompdfpjmdnhoaaGreatDoor.Mc
def stepT (x : OT) : Option (Int × OT) :=
  match readT x with
  | some (some w, x') => wordT x' w
  | _ => none
def nx (x : OT) : OT := match stepT x with | some q => q.2 | none => x
def rd (x : OT) : OT := match readT x with | some p => p.2 | none => x
theorem goT_step {x y : OT} {n : Nat} (h : stepT x = some (0, y)) (hr : y.o.runs = false) : goT (n + 1) x = goT n y := by
  unfold stepT at h
  conv => lhs; unfold goT
  split at h
  · rename_i w x' e
    rw [e]
    dsimp only
    rw [h]
    dsimp only
    rw [if_neg (by simp), if_neg (by rw [hr]; simp)]
  · cases h
theorem goT_bad {x y : OT} {n : Nat} {c : Int} (h : stepT x = some (c, y)) (hc : c ≠ 0) : goT (n + 1) x = some (c, false, faultT y) := by
  unfold stepT at h
  conv => lhs; unfold goT
  split at h
  · rename_i w x' e
    rw [e]
    dsimp only
    rw [h]
    dsimp only
    rw [if_pos hc]
  · cases h
theorem allot_some (o p : OS) (v : Int) (h : Nat) (hp : pop o = (v, 0, p)) (hh : p.here = h) (hm : p.m.mem.length = 800) (h1 : -(h : Int) ≤ v) (h2 : v ≤ 800 - (h : Int)) : allot o = (0, { p with here := ((h : Int) + v).toNat }) := by
  unfold allot
  rw [hp]
  dsimp only
  rw [if_neg (by simp), hh, hm, if_neg (by omega)]
theorem allot_none (o p : OS) (v : Int) (h : Nat) (hp : pop o = (v, 0, p)) (hh : p.here = h) (hm : p.m.mem.length = 800) (h2 : 800 - (h : Int) < v) : allot o = (-8, p) := by
  unfold allot
  rw [hp]
  dsimp only
  rw [if_neg (by simp), hh, hm, if_pos (by omega)]
def rest (x : OT) (g : Option (Int × Bool × OT)) : Option (Int × List (List UInt8) × List (Bool × Bool)) :=
  ((match (match g with
    | none => none
    | some r =>
      if r.2.1 = false ∨ 3000 = 0 then some (r.1, 3000, keepL x r.2.2)
      else match Mc.runT 3000 (keepL x r.2.2).t with
        | none => none
        | some q => lineT 59 q.2 (setT (keepL x r.2.2) q.1)) with
    | none => none
    | some q => if q.2.2.line.isNone = true then linesT [] q.1 q.2.2 else none) : Option (Int × OT)).map fun q => (q.1, q.2.t.out, q.2.t.log)
set_option maxRecDepth 100000 in
theorem rest_eq (x : OT) (l : List Tk) : (linesT [(l, [])] 0 x).map (fun q => (q.1, q.2.t.out, q.2.t.log)) = rest (startT x l []) (goX (startT x l [])) := by kernel_rfl
theorem nat_sum (k : Nat) : (((192 : Nat) : Int) + (k : Int)).toNat = 192 + k := by omega
def alL (n : Int) : List Tk := [.c 104, .c 101, .c 114, .c 101, .c 32, .n (n) 10, .c 32, .c 97, .c 108, .c 108, .c 111, .c 116, .c 32, .c 104, .c 101, .c 114, .c 101, .c 32, .c 115, .c 119, .c 97, .c 112, .c 32, .c 45, .c 32, .c 46]
def al0 (n : Int) : OT := startT (begT 800 inp0) (alL n) []
def al2 (n : Int) : OT := nx (nx (al0 n))
def alP (n : Int) : OS := (pop (rd (al2 n)).os).2.2
def al3 (n : Int) (h : Nat) : OT := back (rd (al2 n)) { alP n with here := h }
set_option maxRecDepth 100000 in
theorem al_s1 (n : Int) : stepT (al0 n) = some (0, nx (al0 n)) := by kernel_rfl
theorem al_r1 (n : Int) : (nx (al0 n)).o.runs = false := by kernel_rfl
set_option maxRecDepth 100000 in
theorem al_s2 (n : Int) : stepT (nx (al0 n)) = some (0, al2 n) := by kernel_rfl
theorem al_r2 (n : Int) : (al2 n).o.runs = false := by kernel_rfl
set_option maxRecDepth 100000 in
theorem al_s3 (n : Int) : stepT (al2 n) = some (liftO allot (rd (al2 n))) := by kernel_rfl
theorem al_p (n : Int) : pop (rd (al2 n)).os = (n, 0, alP n) := by kernel_rfl
theorem al_h (n : Int) : (alP n).here = 192 := by kernel_rfl
theorem al_m (n : Int) : (alP n).m.mem.length = 800 := by kernel_rfl
set_option maxRecDepth 100000 in
theorem al_x (n : Int) : goX (al0 n) = goT (24 + 3) (al0 n) := by kernel_rfl
theorem al_r3 (n : Int) (h : Nat) : (al3 n h).o.runs = false := by kernel_rfl
theorem al_go (k : Nat) (hk : k ≤ 608) : goX (al0 (k : Int)) = goT 24 (al3 (k : Int) (192 + k)) := by
  have h3 : stepT (al2 (k : Int)) = some (0, al3 (k : Int) (192 + k)) := by
    rw [al_s3]
    unfold liftO
    rw [allot_some _ _ _ _ (al_p _) (al_h _) (al_m _) (by omega) (by omega), nat_sum]
    rfl
  rw [al_x, goT_step (al_s1 _) (al_r1 _), goT_step (al_s2 _) (al_r2 _), goT_step h3 (al_r3 _ _)]
set_option maxRecDepth 100000 in
theorem al_end (n : Int) (h : Nat) : rest (al0 n) (goT 24 (al3 n h)) = some (0, [num10 (wr ((h : Int) - ((192 : Nat) : Int)))], []) := by kernel_rfl
theorem allots1 (k : Nat) (hk : k ≤ 608) : Plays [alL (k : Int)] 0 (num10 (k : Int)) := by
  have e : (linesT [(alL (k : Int), [])] 0 (begT 800 inp0)).map (fun q => (q.1, q.2.t.out, q.2.t.log)) = some (0, [num10 (k : Int)], []) := by
    rw [rest_eq]
    show rest (al0 (k : Int)) (goX (al0 (k : Int))) = _
    rw [al_go k hk, al_end]
    have : wr (((192 + k : Nat) : Int) - ((192 : Nat) : Int)) = (k : Int) := by
      unfold wr wrap64
      omega
    rw [this]
  have h := plays_of [(alL (k : Int), [])] 0 [num10 (k : Int)] [] (tl := [alL (k : Int)]) rfl (by kernel_rfl) (vl := [(k : Int)]) (by kernel_rfl) e ⟨by unfold In; omega, trivial⟩ (fun p hp => by cases hp)
  simpa using h
theorem al_bad (k : Nat) (hk : 608 < k) : goX (al0 (k : Int)) = some (-8, false, faultT (back (rd (al2 (k : Int))) (alP (k : Int)))) := by
  have h3 : stepT (al2 (k : Int)) = some (-8, back (rd (al2 (k : Int))) (alP (k : Int))) := by
    rw [al_s3]
    unfold liftO
    rw [allot_none _ _ _ _ (al_p _) (al_h _) (al_m _) (by omega)]
  rw [al_x, goT_step (al_s1 _) (al_r1 _), goT_step (al_s2 _) (al_r2 _), goT_bad h3 (by decide)]
set_option maxRecDepth 100000 in
theorem al_bend (n : Int) : rest (al0 n) (some (-8, false, faultT (back (rd (al2 n)) (alP n)))) = some (-8, [], []) := by kernel_rfl
theorem allots3 (k : Nat) (hk : 608 < k) (hk2 : k ≤ 700) : Plays [alL (k : Int)] (-8) [] := by
  have e : (linesT [(alL (k : Int), [])] 0 (begT 800 inp0)).map (fun q => (q.1, q.2.t.out, q.2.t.log)) = some (-8, [], []) := by
    rw [rest_eq]
    show rest (al0 (k : Int)) (goX (al0 (k : Int))) = _
    rw [al_bad k hk, al_bend]
  exact plays_of [(alL (k : Int), [])] (-8) [] [] (tl := [alL (k : Int)]) rfl (by kernel_rfl) (vl := [(k : Int)]) (by kernel_rfl) e ⟨by unfold In; omega, trivial⟩ (fun p hp => by cases hp)
def bmL (n m : Int) : List Tk := [.c 104, .c 101, .c 114, .c 101, .c 32, .n (n) 10, .c 32, .c 97, .c 108, .c 108, .c 111, .c 116, .c 32, .n (m) 10, .c 32, .c 97, .c 108, .c 108, .c 111, .c 116, .c 32, .c 104, .c 101, .c 114, .c 101, .c 32, .c 45, .c 32, .c 46]
def bm0 (n m : Int) : OT := startT (begT 800 inp0) (bmL n m) []
def bm2 (n m : Int) : OT := nx (nx (bm0 n m))
def bmP (n m : Int) : OS := (pop (rd (bm2 n m)).os).2.2
def bm3 (n m : Int) (h : Nat) : OT := back (rd (bm2 n m)) { bmP n m with here := h }
def bm4 (n m : Int) (h : Nat) : OT := nx (bm3 n m h)
def bmQ (n m : Int) (h : Nat) : OS := (pop (rd (bm4 n m h)).os).2.2
def bm5 (n m : Int) (h g : Nat) : OT := back (rd (bm4 n m h)) { bmQ n m h with here := g }
set_option maxRecDepth 100000 in
theorem bm_s1 (n m : Int) : stepT (bm0 n m) = some (0, nx (bm0 n m)) := by kernel_rfl
theorem bm_r1 (n m : Int) : (nx (bm0 n m)).o.runs = false := by kernel_rfl
set_option maxRecDepth 100000 in
theorem bm_s2 (n m : Int) : stepT (nx (bm0 n m)) = some (0, bm2 n m) := by kernel_rfl
theorem bm_r2 (n m : Int) : (bm2 n m).o.runs = false := by kernel_rfl
set_option maxRecDepth 100000 in
theorem bm_s3 (n m : Int) : stepT (bm2 n m) = some (liftO allot (rd (bm2 n m))) := by kernel_rfl
theorem bm_p (n m : Int) : pop (rd (bm2 n m)).os = (n, 0, bmP n m) := by kernel_rfl
theorem bm_h (n m : Int) : (bmP n m).here = 192 := by kernel_rfl
theorem bm_m (n m : Int) : (bmP n m).m.mem.length = 800 := by kernel_rfl
theorem bm_r3 (n m : Int) (h : Nat) : (bm3 n m h).o.runs = false := by kernel_rfl
set_option maxRecDepth 100000 in
theorem bm_s4 (n m : Int) (h : Nat) : stepT (bm3 n m h) = some (0, bm4 n m h) := by kernel_rfl
theorem bm_r4 (n m : Int) (h : Nat) : (bm4 n m h).o.runs = false := by kernel_rfl
set_option maxRecDepth 100000 in
theorem bm_s5 (n m : Int) (h : Nat) : stepT (bm4 n m h) = some (liftO allot (rd (bm4 n m h))) := by kernel_rfl
theorem bm_p5 (n m : Int) (h : Nat) : pop (rd (bm4 n m h)).os = (m, 0, bmQ n m h) := by kernel_rfl
theorem bm_h5 (n m : Int) (h : Nat) : (bmQ n m h).here = h := by kernel_rfl
theorem bm_m5 (n m : Int) (h : Nat) : (bmQ n m h).m.mem.length = 800 := by kernel_rfl
theorem bm_r5 (n m : Int) (h g : Nat) : (bm5 n m h g).o.runs = false := by kernel_rfl
set_option maxRecDepth 100000 in
theorem bm_x (n m : Int) : goX (bm0 n m) = goT (25 + 5) (bm0 n m) := by kernel_rfl
theorem back_sum (k : Nat) : (((192 + k : Nat) : Int) + -(k : Int)).toNat = 192 := by omega
theorem bm_go (k : Nat) (hk : k ≤ 608) : goX (bm0 (k : Int) (-(k : Int))) = goT 25 (bm5 (k : Int) (-(k : Int)) (192 + k) 192) := by
  have h3 : stepT (bm2 (k : Int) (-(k : Int))) = some (0, bm3 (k : Int) (-(k : Int)) (192 + k)) := by
    rw [bm_s3]
    unfold liftO
    rw [allot_some _ _ _ _ (bm_p _ _) (bm_h _ _) (bm_m _ _) (by omega) (by omega), nat_sum]
    rfl
  have h5 : stepT (bm4 (k : Int) (-(k : Int)) (192 + k)) = some (0, bm5 (k : Int) (-(k : Int)) (192 + k) 192) := by
    rw [bm_s5]
    unfold liftO
    rw [allot_some _ _ _ _ (bm_p5 _ _ _) (bm_h5 _ _ _) (bm_m5 _ _ _) (by omega) (by omega), back_sum]
    rfl
  rw [bm_x, goT_step (bm_s1 _ _) (bm_r1 _ _), goT_step (bm_s2 _ _) (bm_r2 _ _), goT_step h3 (bm_r3 _ _ _), goT_step (bm_s4 _ _ _) (bm_r4 _ _ _), goT_step h5 (bm_r5 _ _ _ _)]
set_option maxRecDepth 100000 in
theorem bm_end (n m : Int) (h : Nat) : rest (bm0 n m) (goT 25 (bm5 n m h 192)) = some (0, [num10 (wr (((192 : Nat) : Int) - ((192 : Nat) : Int)))], []) := by kernel_rfl
theorem allots2 (k : Nat) (hk : k ≤ 608) : Plays [bmL (k : Int) (-(k : Int))] 0 (num10 0) := by
  have e : (linesT [(bmL (k : Int) (-(k : Int)), [])] 0 (begT 800 inp0)).map (fun q => (q.1, q.2.t.out, q.2.t.log)) = some (0, [num10 0], []) := by
    rw [rest_eq]
    show rest (bm0 (k : Int) (-(k : Int))) (goX (bm0 (k : Int) (-(k : Int)))) = _
    rw [bm_go k hk, bm_end, show wr (((192 : Nat) : Int) - ((192 : Nat) : Int)) = 0 by unfold wr wrap64; omega]
  have h := plays_of [(bmL (k : Int) (-(k : Int)), [])] 0 [num10 0] [] (tl := [bmL (k : Int) (-(k : Int))]) rfl (by kernel_rfl) (vl := [(k : Int), -(k : Int)]) (by kernel_rfl) e ⟨by unfold In; omega, by unfold In; omega, trivial⟩ (fun p hp => by cases hp)
  simpa using h
end Go.Proofs.YtompdfpjmdnhoaaGreatDoor.Ou
namespace Go.Proofs.YtompdfpjmdnhoaaGreatDoor.Ou
open Go.RowKit Go.Proofs.YtompdfpjmdnhoaaGreatDoor.Rs Go.Proofs.YtompdfpjmdnhoaaGreatDoor.Src Go.Proofs.YtompdfpjmdnhoaaGreatDoor.Ft
set_option maxHeartbeats 8000000 in
set_option maxRecDepth 100000 in
theorem allots_in (k : Nat) (hk : k ≤ 608)  (w : World) (A : Ahead w w) :
    Calls Tryz.prog 13 #[.int .i64 (k : Int)] w fun e w' => e = .returned (.bool true) ∧ Below w.heap.size w w' := by
  have HAl := Lib.hid (fun w1 A1 => alive_any w w1 A1)
  have h1 : decide ((k : Int) < 0) = false := by simp
  have h2 : decide (700 < (k : Int)) = false := by simp; omega
  have h3 : decide (608 < (k : Int)) = false := by simp; omega
  have h4 : wrap64 (-(k : Int)) = -(k : Int) := by unfold wrap64; omega
  have h5 : ¬ (k : Int) < 0 := by omega
  have h6 : ¬ (700 : Int) < k := by omega
  have h7 : ¬ (608 : Int) < k := by omega
  have H4 := Lib.hid h4
  have HX := Lib.hid (fun w => num_any ((k : Int)) (by unfold Mc.In; omega) w)
  obtain ⟨X, eX, sX⟩ := num_some ((k : Int)) 10 (by unfold Mc.In; omega) (by decide)
  have HY := Lib.hid (fun w => num_any (-(k : Int)) (by unfold Mc.In; omega) w)
  obtain ⟨Y, eY, sY⟩ := num_some (-(k : Int)) 10 (by unfold Mc.In; omega) (by decide)
  have P1 := Lib.hid (fun w1 A1 => play1 w (⟨#[104, 101, 114, 101, 32]⟩ ++ X ++ ⟨#[32, 97, 108, 108, 111, 116, 32, 104, 101, 114, 101, 32, 115, 119, 97, 112, 32, 45, 32, 46]⟩) _ _ _ (allots1 k hk) (by rw [(str_join _ _ (([104, 101, 114, 101, 32]) ++ Dg.putV ((k : Int)) 10) ([32, 97, 108, 108, 111, 116, 32, 104, 101, 114, 101, 32, 115, 119, 97, 112, 32, 45, 32, 46]) (str_join _ _ ([104, 101, 114, 101, 32]) (Dg.putV ((k : Int)) 10) rfl eX) rfl)]; simp [flat, Tk.bytes, alL, bmL]) (X ++ ⟨#[32]⟩) (by rw [(str_join _ _ (Dg.putV ((k : Int)) 10) ([32]) eX rfl)]; simp [num10]) w1 A1)
  have P2 := Lib.hid (fun w1 A1 => tells1 w (⟨#[104, 101, 114, 101, 32]⟩ ++ X ++ ⟨#[32, 97, 108, 108, 111, 116, 32]⟩ ++ Y ++ ⟨#[32, 97, 108, 108, 111, 116, 32, 104, 101, 114, 101, 32, 45, 32, 46]⟩) (⟨#[48, 32]⟩) _ _ (by have h := allots2 k hk; unfold num10 at h; rw [put0] at h; exact h) (by rw [(str_join _ _ (((([104, 101, 114, 101, 32]) ++ Dg.putV ((k : Int)) 10) ++ [32, 97, 108, 108, 111, 116, 32]) ++ Dg.putV (-(k : Int)) 10) ([32, 97, 108, 108, 111, 116, 32, 104, 101, 114, 101, 32, 45, 32, 46]) (str_join _ _ ((([104, 101, 114, 101, 32]) ++ Dg.putV ((k : Int)) 10) ++ [32, 97, 108, 108, 111, 116, 32]) (Dg.putV (-(k : Int)) 10) (str_join _ _ (([104, 101, 114, 101, 32]) ++ Dg.putV ((k : Int)) 10) ([32, 97, 108, 108, 111, 116, 32]) (str_join _ _ ([104, 101, 114, 101, 32]) (Dg.putV ((k : Int)) 10) rfl eX) rfl) eY) rfl)]; simp [flat, Tk.bytes, alL, bmL]) rfl w1 A1)
  rw [← eX] at HX
  rw [← eY] at HY
  have HA := Lib.hid A
  clear A eX eY hk
  go_enter Tryz.func13, Tryz.ntmps13
  go_wp2_with fail
  refine (HAl.out _ HA.out).mono ?_
  rintro e w1 ⟨rfl, k⟩
  have A1 := Lib.hid (HA.out.next k)
  have K1 := Lib.hid k
  clear k
  go_wp2_with fail
  refine (HX.out _).mono ?_
  rintro e w2 ⟨rfl, rfl⟩
  go_wp2_with fail
  refine (P1.out _ A1.out).mono ?_
  rintro e w2 ⟨rfl, k⟩
  have A2 := Lib.hid (A1.out.next k)
  have K2 := Lib.hid (K1.out.trans (k.mono K1.out.size))
  clear k K1 A1
  go_wp2_with fail
  refine (HX.out _).mono ?_
  rintro e w3 ⟨rfl, rfl⟩
  go_wp2_with fail
  refine (HX.out _).mono ?_
  rintro e w3 ⟨rfl, rfl⟩
  go_wp2_with fail
  refine (HY.out _).mono ?_
  rintro e w3 ⟨rfl, rfl⟩
  go_wp2_with fail
  refine (P2.out _ A2.out).mono ?_
  rintro e w3 ⟨rfl, k⟩
  have A3 := Lib.hid (A2.out.next k)
  have K3 := Lib.hid (K2.out.trans (k.mono K2.out.size))
  clear k K2 A2
  go_wp2_with fail
  go_ret
  exact ⟨rfl, K3.out⟩
set_option maxHeartbeats 8000000 in
set_option maxRecDepth 100000 in
theorem allots_out (k : Nat) (hk : 608 < k) (hk2 : k ≤ 700)  (w : World) (A : Ahead w w) :
    Calls Tryz.prog 13 #[.int .i64 (k : Int)] w fun e w' => e = .returned (.bool true) ∧ Below w.heap.size w w' := by
  have HAl := Lib.hid (fun w1 A1 => alive_any w w1 A1)
  have h1 : decide ((k : Int) < 0) = false := by simp
  have h2 : decide (700 < (k : Int)) = false := by simp; omega
  have h3 : decide (608 < (k : Int)) = true := by simp; omega
  have h4 : wrap64 (-(k : Int)) = -(k : Int) := by unfold wrap64; omega
  have h5 : ¬ (k : Int) < 0 := by omega
  have h6 : ¬ (700 : Int) < k := by omega
  have h7 :  (608 : Int) < k := by omega
  have H4 := Lib.hid h4
  have HX := Lib.hid (fun w => num_any ((k : Int)) (by unfold Mc.In; omega) w)
  obtain ⟨X, eX, sX⟩ := num_some ((k : Int)) 10 (by unfold Mc.In; omega) (by decide)
  have P1 := Lib.hid (fun w1 A1 => play1 w (⟨#[104, 101, 114, 101, 32]⟩ ++ X ++ ⟨#[32, 97, 108, 108, 111, 116, 32, 104, 101, 114, 101, 32, 115, 119, 97, 112, 32, 45, 32, 46]⟩) _ _ _ (allots3 k hk hk2) (by rw [(str_join _ _ (([104, 101, 114, 101, 32]) ++ Dg.putV ((k : Int)) 10) ([32, 97, 108, 108, 111, 116, 32, 104, 101, 114, 101, 32, 115, 119, 97, 112, 32, 45, 32, 46]) (str_join _ _ ([104, 101, 114, 101, 32]) (Dg.putV ((k : Int)) 10) rfl eX) rfl)]; simp [flat, Tk.bytes, alL]) (⟨#[]⟩) rfl w1 A1)
  rw [← eX] at HX
  have HA := Lib.hid A
  clear A eX hk hk2
  go_enter Tryz.func13, Tryz.ntmps13
  go_wp2_with fail
  refine (HAl.out _ HA.out).mono ?_
  rintro e w1 ⟨rfl, k⟩
  have A1 := Lib.hid (HA.out.next k)
  have K1 := Lib.hid k
  clear k
  go_wp2_with fail
  refine (HX.out _).mono ?_
  rintro e w2 ⟨rfl, rfl⟩
  go_wp2_with fail
  refine (P1.out _ A1.out).mono ?_
  rintro e w2 ⟨rfl, k⟩
  have A2 := Lib.hid (A1.out.next k)
  have K2 := Lib.hid (K1.out.trans (k.mono K1.out.size))
  clear k K1 A1
  go_wp2_with fail
  go_ret
  exact ⟨rfl, K2.out⟩
set_option maxHeartbeats 8000000 in
set_option maxRecDepth 100000 in
theorem allots_low (n : Int) (h : n < 0)  (w : World) (A : Ahead w w) :
    Calls Tryz.prog 13 #[.int .i64 n] w fun e w' => e = .returned (.bool true) ∧ Below w.heap.size w w' := by
  have HAl := Lib.hid (fun w1 A1 => alive_any w w1 A1)
  have h1 : decide (n < 0) = true := by simp; omega
  have h5 : n < 0 := h
  have HA := Lib.hid A
  clear A h
  go_enter Tryz.func13, Tryz.ntmps13
  go_wp2_with fail
  refine (HAl.out _ HA.out).mono ?_
  rintro e w1 ⟨rfl, k⟩
  have A1 := Lib.hid (HA.out.next k)
  have K1 := Lib.hid k
  clear k
  go_wp2_with fail
  go_ret
  exact ⟨rfl, K1.out⟩
set_option maxHeartbeats 8000000 in
set_option maxRecDepth 100000 in
theorem allots_high (n : Int) (h : 700 < n)  (w : World) (A : Ahead w w) :
    Calls Tryz.prog 13 #[.int .i64 n] w fun e w' => e = .returned (.bool true) ∧ Below w.heap.size w w' := by
  have HAl := Lib.hid (fun w1 A1 => alive_any w w1 A1)
  have h1 : decide (n < 0) = false := by simp; omega
  have h2 : decide (700 < n) = true := by simp; omega
  have h5 : ¬ n < 0 := by omega
  have h6 : 700 < n := h
  have HA := Lib.hid A
  clear A h
  go_enter Tryz.func13, Tryz.ntmps13
  go_wp2_with fail
  refine (HAl.out _ HA.out).mono ?_
  rintro e w1 ⟨rfl, k⟩
  have A1 := Lib.hid (HA.out.next k)
  have K1 := Lib.hid k
  clear k
  go_wp2_with fail
  go_ret
  exact ⟨rfl, K1.out⟩
set_option maxHeartbeats 8000000 in
set_option maxRecDepth 100000 in
theorem allots_walk (n : Int) (hn : Mc.In n)  (w : World) (A : Ahead w w) :
    Calls Tryz.prog 13 #[.int .i64 n] w fun e w' => e = .returned (.bool true) ∧ Below w.heap.size w w' := by
  by_cases h1 : n < 0
  · exact allots_low n h1 w A
  by_cases h2 : 700 < n
  · exact allots_high n h2 w A
  obtain ⟨k, rfl⟩ : ∃ k : Nat, n = (k : Int) := ⟨n.toNat, by omega⟩
  by_cases h3 : k ≤ 608
  · exact allots_in k h3 w A
  · exact allots_out k (by omega) (by omega) w A
end Go.Proofs.YtompdfpjmdnhoaaGreatDoor.Ou
