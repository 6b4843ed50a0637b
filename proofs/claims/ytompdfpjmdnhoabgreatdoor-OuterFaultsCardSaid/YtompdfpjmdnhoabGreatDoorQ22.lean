/-
  Lemmas on the way, for every input that they name: Ff, Fg.
-/
import Derived.Test.YtompdfpjmdnhoabGreatDoorProg
import Derived.WalkKit
import Derived.BigFrame
import Derived.Orders
set_option linter.unusedVariables false
set_option linter.unusedSimpArgs false
set_option linter.deprecated false
namespace Go.Proofs.YtompdfpjmdnhoabGreatDoor.Ff
open Go.RowKit
inductive KI where
  | seq (y : Code)
  | blk (id : Nat)
def post (P : Program) : List KI → (Exit → Act → World → Prop) → Exit → Act → World → Prop
  | [], Q => Q
  | .seq y :: ks, Q => Exit.then (y.wp P (post P ks Q)) (post P ks Q)
  | .blk id :: ks, Q => Exit.inBlock id (post P ks Q)
def binV (op : BinOp) (x y : Value) : Option Value :=
  match x, y with
  | .int k m, .int k' n => if k = k' then (match op with | .eql => some (.bool (m == n)) | .neq => some (.bool (m != n)) | .lss => some (.bool (m < n)) | .leq => some (.bool (m ≤ n)) | .gtr => some (.bool (m > n)) | .geq => some (.bool (m ≥ n)) | _ => none) else none
  | .string s, .string t => (match op with | .eql => some (.bool (s.data.toList == t.data.toList)) | .neq => some (.bool (!(s.data.toList == t.data.toList))) | _ => none)
  | _, _ => none
def pureV (o : Oper) (a : Act) : Option Value :=
  match o.guard with
  | some _ => none
  | none =>
    match o.op with
    | .move x => some (a.eval x)
    | .assign x => some (a.eval x)
    | .binOp op _ x y _ => binV op (a.eval x) (a.eval y)
    | .unOp .not _ x => match a.eval x with | .bool b => some (.bool !b) | _ => none
    | .extract t ix => match a.eval t with | .tuple vs => vs[ix]? | _ => none
    | _ => none
theorem toList_eq (s : ByteArray) : s.toList = s.data.toList := ByteArray.toList_eq s
theorem binV_run {P : Program} {op : BinOp} {t : TypeId} {ox oy : Operand} {x y v : Value} {w : World} (h : binV op x y = some v) :
    (do eqGuard op t ox oy x y; binOp op t x y : Sem Value).run P w = .ok v w := by
  unfold binV at h
  split at h
  · rename_i k m k' n
    split at h
    · rename_i hk
      subst hk
      cases op <;> simp at h <;> subst h <;> simp [eqGuard, binOp, Op.intCmp]
    · cases h
  · rename_i s u
    cases op <;> simp at h <;> subst h <;> simp [eqGuard, binOp, Op.stringOp, toList_eq]
  · cases h
theorem pureV_wp {P : Program} {o : Oper} {a : Act} {v : Value} {w : World} {K : Act → World → Prop} {Q : Exit → Act → World → Prop} (h : pureV o a = some v) (hK : K (a.put o.dst v) w) : o.wp P a w K Q := by
  obtain ⟨dst, op, type, pos, after, guard⟩ := o
  unfold pureV at h
  cases guard with
  | some g => cases h
  | none =>
    dsimp only at h hK
    cases op with
    | move x => injection h with h; subst h; unfold Oper.wp execOp; exact hK
    | assign x => injection h with h; subst h; unfold Oper.wp execOp; exact hK
    | binOp op t x y t2 =>
      have := binV_run (P := P) (t := t) (ox := x) (oy := y) (w := w) h
      unfold Oper.wp execOp
      dsimp only
      rw [Sem.run_bind, this]
      exact hK
    | unOp op t x =>
      cases op with
      | not =>
        dsimp only at h
        split at h
        · rename_i b hb
          injection h with h
          subst h
          unfold Oper.wp execOp
          dsimp only
          rw [hb]
          exact hK
        · cases h
      | _ => cases h
    | extract t ix =>
      dsimp only at h
      split at h
      · rename_i vs hv
        unfold Oper.wp execOp
        dsimp only
        rw [hv]
        unfold Instr.extract
        dsimp only
        rw [h]
        exact hK
      · cases h
    | _ => cases h
def wl (P : Program) (Q : Exit → Act → World → Prop) : List Oper → Act → World → Prop
  | [], a, w => Q .normal a w
  | o :: r, a, w => o.guard = none ∧ o.wp P a w (wl P Q r) Q
theorem wl_list {P : Program} {Q : Exit → Act → World → Prop} {ops : Array Oper} : ∀ (l : List Oper) (a : Act) (w : World), wl P Q l a w → wpList P ops Q l a w
  | [], _, _, h => h
  | o :: r, a, w, ⟨hg, h⟩ => wpList_plain hg fun K hK => by
    refine Oper.wp_mono (fun a w h => hK a w (wl_list r a w h)) h
inductive Res where
  | call (f : FuncId) (args : Array Value) (dst : Option Tmp) (ops : List Oper) (ks : List KI) (a : Act)
  | ret (a : Act)
  | still
def out (id : Nat) : List KI → Option (List KI)
  | [] => none
  | .seq _ :: ks => out id ks
  | .blk i :: ks => if id = i then some ks else out id ks
mutual
def ev : Nat → List Oper → List KI → Act → Res
  | 0, _, _, _ => .still
  | n + 1, [], ks, a => match ks with
    | [] => .ret a
    | .blk _ :: ks => ev n [] ks a
    | .seq c :: ks => evc n c ks a
  | n + 1, o :: r, ks, a =>
    match pureV o a with
    | some v => ev n r ks (a.put o.dst v)
    | none => match o.guard, o.op with
      | none, .call c => match c.callee with
        | .value (.func f) => .call f (c.args.map a.eval) o.dst r ks a
        | _ => .still
      | _, _ => .still
def evc : Nat → Code → List KI → Act → Res
  | 0, _, _, _ => .still
  | n + 1, c, ks, a => match c with
    | .skip => ev n [] ks a
    | .region _ ops false => ev n ops.toList ks a
    | .seq x y => evc n x (.seq y :: ks) a
    | .block id x => evc n x (.blk id :: ks) a
    | .cond o x y => match a.eval o with
      | .bool true => evc n x ks a
      | .bool false => evc n y ks a
      | _ => .still
    | .exit id => match out id ks with
      | some ks' => ev n [] ks' a
      | none => .still
    | .ret => .ret a
    | _ => .still
end
def Res.Ok (P : Program) (Q : Exit → Act → World → Prop) (r : Res) (w : World) : Prop :=
  match r with
  | .call f args dst ops ks a => (∀ xs w, (callFunc f xs).run P w = .ok (.enter f xs) w) ∧ Calls P f args w fun e w' => ∃ v, e = .returned v ∧ wl P (post P ks Q) ops (a.put dst v) w'
  | .ret a => Q .ret a w ∧ Q .normal a w
  | .still => False
theorem post_ret {P : Program} {Q : Exit → Act → World → Prop} {a : Act} {w : World} (h : Q .ret a w) : ∀ ks, post P ks Q .ret a w
  | [] => h
  | .seq _ :: ks => post_ret h ks
  | .blk _ :: ks => post_ret h ks
theorem post_out {P : Program} {Q : Exit → Act → World → Prop} {a : Act} {w : World} {id : Nat} : ∀ (ks ks' : List KI), out id ks = some ks' → post P ks' Q .normal a w → post P ks Q (.exit id) a w
  | [], _, h, _ => by cases h
  | .seq _ :: ks, ks', h, k => post_out ks ks' h k
  | .blk i :: ks, ks', h, k => by
    unfold out at h
    show (if id = i then post P ks Q .normal a w else post P ks Q (.exit id) a w)
    split at h
    · rename_i hi
      injection h with h
      subst h
      rw [if_pos hi]
      exact k
    · rename_i hi
      rw [if_neg hi]
      exact post_out ks ks' h k
mutual
theorem ev_ok {P : Program} {Q : Exit → Act → World → Prop} {w : World} : ∀ (n : Nat) (ops : List Oper) (ks : List KI) (a : Act), (ev n ops ks a).Ok P Q w → wl P (post P ks Q) ops a w
  | 0, _, _, _, h => by unfold ev at h; exact h.elim
  | n + 1, [], ks, a, h => by
    unfold ev at h
    show post P ks Q .normal a w
    match ks, h with
    | [], h => exact h.2
    | .blk _ :: ks, h => exact ev_ok n [] ks a h
    | .seq c :: ks, h => exact evc_ok n c ks a h
  | n + 1, o :: r, ks, a, h => by
    unfold ev at h
    cases hp : pureV o a with
    | some v =>
      rw [hp] at h
      refine ⟨?_, pureV_wp hp (ev_ok n r ks _ h)⟩
      unfold pureV at hp
      cases hg : o.guard with
      | none => rfl
      | some g => rw [hg] at hp; cases hp
    | none =>
      rw [hp] at h
      obtain ⟨dst, op, type, pos, after, guard⟩ := o
      dsimp only at h
      split at h
      · rename_i c
        split at h
        · rename_i f hf
          refine ⟨rfl, ?_⟩
          obtain ⟨hent, hc⟩ := h
          obtain ⟨callee, args, ats⟩ := c
          dsimp only at hf hc
          subst hf
          unfold Oper.wp
          have e : execOp a.eval { dst, op := .call { callee := .value (.func f), args := args, argTypes := ats }, type, pos, after, guard := none } = callFunc f (#[] ++ args.map a.eval ++ #[]) := rfl
          rw [e, hent, Oper.upon_enter]
          have e2 : (#[] ++ args.map a.eval ++ #[] : Array Value) = args.map a.eval := by simp
          rw [e2]
          refine hc.mono fun e w' h => ?_
          obtain ⟨v, rfl, hk⟩ := h
          exact hk
        · exact h.elim
      · exact h.elim
theorem evc_ok {P : Program} {Q : Exit → Act → World → Prop} {w : World} : ∀ (n : Nat) (c : Code) (ks : List KI) (a : Act), (evc n c ks a).Ok P Q w → c.wp P (post P ks Q) a w
  | 0, _, _, _, h => by unfold evc at h; exact h.elim
  | n + 1, c, ks, a, h => by
    unfold evc at h
    cases c with
    | skip => exact wp_skip (ev_ok n [] ks a h)
    | region id ops d =>
      cases d with
      | false => exact wp_region_list (wl_list _ _ _ (ev_ok n ops.toList ks a h))
      | true => exact h.elim
    | seq x y => exact wp_seq (evc_ok n x (.seq y :: ks) a h)
    | block id x => exact wp_block (evc_ok n x (.blk id :: ks) a h)
    | cond o x y =>
      dsimp only at h
      split at h
      · rename_i hb; exact wp_cond_true hb (evc_ok n x ks a h)
      · rename_i hb; exact wp_cond_false hb (evc_ok n y ks a h)
      · exact h.elim
    | exit id =>
      dsimp only at h
      split at h
      · rename_i ks' ho; exact wp_exit (post_out ks ks' ho (ev_ok n [] ks' a h))
      · exact h.elim
    | ret => exact wp_ret (post_ret h.1 ks)
    | _ => exact h.elim
end
def Res.callee : Res → Option (FuncId × Array Value)
  | .call f args _ _ _ _ => some (f, args)
  | _ => none
def Res.after (n : Nat) (v : Value) : Res → Res
  | .call _ _ dst ops ks a => ev n ops ks (a.put dst v)
  | _ => .still
def resV (fn : Func) (tmps : Array Value) : Option Value :=
  match fn.results.toList with
  | [] => some (.tuple #[])
  | [.tmp t] => some (tmps.getD t undef)
  | [.tmp t, .tmp u] => some (.tuple #[tmps.getD t undef, tmps.getD u undef])
  | _ => none
def Res.out (fn : Func) : Res → Option Value
  | .ret a => match a.defers with | [] => resV fn a.tmps | _ => none
  | _ => none
theorem resV_run {P : Program} {fn : Func} {tmps : Array Value} {v : Value} {w : World} (h : resV fn tmps = some v) : (results fn tmps).run P w = .ok v w := by
  unfold resV at h
  split at h
  · rename_i hr
    injection h with h
    subst h
    exact results_none (by simpa using hr) _ _ _
  · rename_i t hr
    injection h with h
    subst h
    exact results_tmp (by rw [← Array.toList_inj]; simpa using hr) _ _ _
  · rename_i t u hr
    injection h with h
    subst h
    exact results_tmp2 (by rw [← Array.toList_inj]; simpa using hr) _ _ _
  · cases h
theorem ok_call {P : Program} {Q : Exit → Act → World → Prop} {w : World} (n : Nat) (r : Res) {g : FuncId} {args : Array Value} {R1 : Ending → World → Prop} (h : r.callee = some (g, args)) (hent : ∀ xs w, (callFunc g xs).run P w = .ok (.enter g xs) w)
    (hc : Calls P g args w R1) (hR : ∀ e w1, R1 e w1 → ∃ v, e = .returned v ∧ (r.after n v).Ok P Q w1) : r.Ok P Q w := by
  cases r with
  | call f args' dst ops ks a =>
    injection h with h
    injection h with h1 h2
    subst h1 h2
    refine ⟨hent, hc.mono fun e w1 h1 => ?_⟩
    obtain ⟨v, he, hk⟩ := hR e w1 h1
    exact ⟨v, he, ev_ok n ops ks _ hk⟩
  | _ => cases h
theorem ok_ret {P : Program} {fn : Func} {R : Ending → World → Prop} {w : World} (r : Res) (u : Value) (h : r.out fn = some u) (hR : R (.returned u) w) : r.Ok P (bodyPost P fn R) w := by
  cases r with
  | ret a =>
    unfold Res.out at h
    dsimp only at h
    split at h
    · rename_i hd
      exact ⟨⟨hd, u, resV_run h, hR⟩, ⟨hd, u, resV_run h, hR⟩⟩
    · cases h
  | _ => cases h
theorem calls {P : Program} (n : Nat) {f : FuncId} {fn : Func} {c : Code} {args : Array Value} {w : World} {R : Ending → World → Prop} (hf : P.funcs[f]? = some fn) (hb : fn.body = some c)
    (h : (evc n c [] { tmps := args ++ Array.replicate (fn.ntmps - args.size) undef, defers := [] }).Ok P (bodyPost P fn R) w) : Calls P f args w R :=
  calls_of_wp hf hb (evc_ok n c [] _ h)
def start (fn : Func) (args : Array Value) : Res := evc 400 (fn.body.getD .skip) [] { tmps := args ++ Array.replicate (fn.ntmps - args.size) undef, defers := [] }
def next (v : Value) (r : Res) : Res := r.after 400 v
theorem start_calls {P : Program} {f : FuncId} {fn : Func} {args : Array Value} {w : World} {R : Ending → World → Prop} (hf : P.funcs[f]? = some fn) (hb : fn.body.isSome = true)
    (h : (start fn args).Ok P (bodyPost P fn R) w) : Calls P f args w R := by
  cases hc : fn.body with
  | none => rw [hc] at hb; cases hb
  | some c =>
    refine calls 400 hf hc ?_
    unfold start at h
    rw [hc] at h
    exact h
theorem void1 {P : Program} {f g : FuncId} {fn : Func} {args gargs : Array Value} {u : Value} {w : World} {R : Ending → World → Prop} {R1 : World → Prop} (hf : P.funcs[f]? = some fn) (hb : fn.body.isSome = true) (h1 : (start fn args).callee = some (g, gargs))
    (hent : ∀ xs w, (callFunc g xs).run P w = .ok (.enter g xs) w) (h2 : (next (.tuple #[]) (start fn args)).out fn = some u) (hc : Calls P g gargs w fun e w' => e = .returned (.tuple #[]) ∧ R1 w') (hR : ∀ w', R1 w' → R (.returned u) w') : Calls P f args w R :=
  start_calls hf hb (ok_call 400 _ h1 hent hc fun _ w1 h => ⟨_, h.1, ok_ret _ _ h2 (hR w1 h.2)⟩)
theorem pass1 {P : Program} {f g : FuncId} {fn : Func} {args gargs : Array Value} {w : World} {R : Ending → World → Prop} (hf : P.funcs[f]? = some fn) (hb : fn.body.isSome = true) (h1 : (start fn args).callee = some (g, gargs))
    (hent : ∀ xs w, (callFunc g xs).run P w = .ok (.enter g xs) w) (h2 : ∀ v, (next v (start fn args)).out fn = some v) (hc : Calls P g gargs w R) (hv : ∀ e w', R e w' → ∃ v, e = .returned v) : Calls P f args w R :=
  start_calls hf hb (ok_call 400 _ h1 hent hc fun e w1 h => by
    obtain ⟨v, rfl⟩ := hv e w1 h
    exact ⟨v, rfl, ok_ret _ _ (h2 v) h⟩)
theorem end0 {P : Program} {f : FuncId} {fn : Func} {args : Array Value} {u : Value} {w : World} {R : Ending → World → Prop} (hf : P.funcs[f]? = some fn) (hb : fn.body.isSome = true) (h : (start fn args).out fn = some u) (hR : R (.returned u) w) : Calls P f args w R :=
  start_calls hf hb (ok_ret _ _ h hR)
end Go.Proofs.YtompdfpjmdnhoabGreatDoor.Ff
namespace Go.Proofs.YtompdfpjmdnhoabGreatDoor.Ff
open Go.RowKit
theorem one {P : Program} {f g : FuncId} {fn : Func} {args gargs : Array Value} {u1 u : Value} {w : World} (hf : P.funcs[f]? = some fn) (hb : fn.body.isSome = true) (h1 : (start fn args).callee = some (g, gargs))
    (hent : ∀ xs w, (callFunc g xs).run P w = .ok (.enter g xs) w) (h2 : (next u1 (start fn args)).out fn = some u) (hc : Calls P g gargs w fun e w' => e = .returned u1 ∧ w = w') : Calls P f args w fun e w' => e = .returned u ∧ w = w' :=
  start_calls hf hb (ok_call 400 _ h1 hent hc fun _ w1 h => ⟨u1, h.1, ok_ret _ _ h2 ⟨rfl, h.2⟩⟩)
theorem two {P : Program} {f g g2 : FuncId} {fn : Func} {args gargs gargs2 : Array Value} {u1 u2 u : Value} {w : World} (hf : P.funcs[f]? = some fn) (hb : fn.body.isSome = true) (h1 : (start fn args).callee = some (g, gargs))
    (hent : ∀ xs w, (callFunc g xs).run P w = .ok (.enter g xs) w) (hc : Calls P g gargs w fun e w' => e = .returned u1 ∧ w = w') (h2 : (next u1 (start fn args)).callee = some (g2, gargs2))
    (hent2 : ∀ xs w, (callFunc g2 xs).run P w = .ok (.enter g2 xs) w) (h3 : (next u2 (next u1 (start fn args))).out fn = some u) (hc2 : Calls P g2 gargs2 w fun e w' => e = .returned u2 ∧ w = w') : Calls P f args w fun e w' => e = .returned u ∧ w = w' :=
  start_calls hf hb (ok_call 400 _ h1 hent hc fun _ w1 h => ⟨u1, h.1, by
    obtain ⟨_, rfl⟩ := h
    exact ok_call 400 _ h2 hent2 hc2 fun _ w2 h => ⟨u2, h.1, ok_ret _ _ h3 ⟨rfl, h.2⟩⟩⟩)
theorem none0 {P : Program} {f : FuncId} {fn : Func} {args : Array Value} {u : Value} {w : World} (hf : P.funcs[f]? = some fn) (hb : fn.body.isSome = true) (h : (start fn args).out fn = some u) : Calls P f args w fun e w' => e = .returned u ∧ w = w' :=
  end0 hf hb h ⟨rfl, rfl⟩
end Go.Proofs.YtompdfpjmdnhoabGreatDoor.Ff
