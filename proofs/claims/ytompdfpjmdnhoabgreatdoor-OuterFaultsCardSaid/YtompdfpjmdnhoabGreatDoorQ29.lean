/-
  Lemmas on the way, for every input that they name: OoA, OoC, OoD, OoF, OoH, OoI, OoG.
-/
import Derived.Deep.MidRow
import Derived.Test.YtompdfpjmdnhoabGreatDoorQ09
import Derived.Test.YtompdfpjmdnhoabGreatDoorQ12
import Derived.Test.YtompdfpjmdnhoabGreatDoorQ26
import Derived.Test.YtompdfpjmdnhoabGreatDoorQ28
set_option linter.unusedVariables false
set_option linter.unusedSimpArgs false
set_option linter.deprecated false
namespace Go.Proofs.YtompdfpjmdnhoabGreatDoor.Ou
open Go.RowKit Go.Proofs.YtompdfpjmdnhoabGreatDoor.Rs
def ownRes (e : TypeId) (sz : Nat) (A : Option Addr) (n c : Nat) (xs : List Value) : List Res :=
  match A with
  | none => []
  | some a => if c = 0 then [.st a.block e #[]] else [.row e sz (.slice (some a) n c) n xs]
structure OwnOk (A : Option Addr) (n c sz : Nat) (xs : List Value) : Prop where
  nil : A = none → n = 0 ∧ c = 0
  at_ : ∀ a, A = some a → a = ⟨a.block, 0, none⟩
  zero : c = 0 → n = 0
  len : xs.length = n * sz
section
variable {w : World} {B : Nat} {e : TypeId} {sz n c : Nat} {A : Option Addr} {xs : List Value}
theorem ownRes_blks : blks (ownRes e sz A n c xs) = (A.map (·.block)).toList := by
  cases A with
  | none => rfl
  | some a =>
    unfold ownRes
    dsimp only
    cases c with
    | zero => rfl
    | succ c => simp [blks, Res.blk, roomBlock]
theorem own_of (h : w.ownsRow B e sz (.slice A n c) n xs) : Held w B (ownRes e sz A n c xs) ∧ OwnOk A n c sz xs := by
  rcases h.2 with ⟨h0, rfl⟩ | ⟨g, cap, cur, hv, hb, hg, hn, hm, hs, ht⟩
  · injection h0 with h0 _ h2
    subst h0 h2
    exact ⟨Held.nil _ _, ⟨fun _ => ⟨rfl, rfl⟩, (fun _ h => (by cases h)), fun _ => rfl, h.1⟩⟩
  · injection hv with h1 _ h2
    subst h1 h2
    refine ⟨⟨fun r hr => ?_, by rw [ownRes_blks]; simp⟩, ⟨(fun h => (by cases h)), (fun a ha => (by injection ha with ha; subst ha; rfl)), (fun h => (by omega)), h.1⟩⟩
    unfold ownRes at hr
    dsimp only at hr
    split at hr
    · rename_i h0
      simp only [List.mem_singleton] at hr
      subst hr h0
      have hc : cur = #[] := Array.eq_empty_of_size_eq_zero (by simpa using hs)
      subst hc
      exact ⟨hb, hg⟩
    · simp only [List.mem_singleton] at hr
      subst hr
      exact Row.of_own h
theorem own_to (H : Held w B (ownRes e sz A n c xs)) (K : OwnOk A n c sz xs) : w.ownsRow B e sz (.slice A n c) n xs := by
  cases A with
  | none =>
    obtain ⟨h1, h2⟩ := K.nil rfl
    subst h1 h2
    exact ⟨K.len, .inl ⟨rfl, rfl⟩⟩
  | some a =>
    unfold ownRes at H
    dsimp only at H
    have ha := K.at_ a rfl
    split at H
    · rename_i h0
      subst h0
      have hn := K.zero rfl
      subst hn
      have h1 := H.are _ (List.mem_singleton.2 rfl)
      refine ⟨K.len, .inr ⟨a.block, 0, #[], by rw [← ha], h1.1, h1.2, Nat.le_refl _, Nat.zero_le _, by simp, ?_⟩⟩
      have := K.len
      simp at this
      subst this
      simp
    · rename_i h0
      rcases (H.row (List.mem_singleton.2 rfl)).to_own with h1 | ⟨rfl, rfl, A', h1⟩
      · exact h1
      · injection h1 with _ _ e2
        exact absurd e2 h0
end
def wvRes (a : Wv.At) (s : Wv.St) : List Res :=
  .st a.sb 140 #[.slice a.MA s.M.length a.mcap, .int .i64 s.h, .slice a.OA s.O.length a.ocap] :: (ownRes 3 1 a.MA s.M.length a.mcap (ints s.M) ++ ownRes 164 2 a.OA s.O.length a.ocap (Wv.flat s.O))
structure WvOk (a : Wv.At) (s : Wv.St) : Prop where
  here : s.h ≤ s.M.length
  small : s.M.length ≤ 5000
  few : s.O.length ≤ 5000
  m : OwnOk a.MA s.M.length a.mcap 1 (ints s.M)
  o : OwnOk a.OA s.O.length a.ocap 2 (Wv.flat s.O)
theorem mem_wvRes {a : Wv.At} {s : Wv.St} {k : Nat} : k ∈ blks (wvRes a s) ↔ a.blocks k := by
  have e : blks (wvRes a s) = a.sb :: ((a.MA.map (·.block)).toList ++ (a.OA.map (·.block)).toList) := by
    unfold wvRes
    rw [← ownRes_blks (e := 3) (sz := 1) (n := s.M.length) (c := a.mcap) (xs := ints s.M), ← ownRes_blks (e := 164) (sz := 2) (n := s.O.length) (c := a.ocap) (xs := Wv.flat s.O), ← blks_append]
    rfl
  rw [e]
  simp only [List.mem_cons, List.mem_append, Option.mem_toList]
  rfl
theorem wvIs_of {w : World} {B : Nat} {a : Wv.At} {s : Wv.St} (H : Held w B (wvRes a s)) (K : WvOk a s) : Wv.WvIs w B a s.M s.h s.O :=
  { blk := (H.are _ (List.mem_cons_self ..)).2
    base := (H.are _ (List.mem_cons_self ..)).1
    mem := own_to (H.sub ((List.sublist_append_left _ _).cons _)) K.m
    opn := own_to (H.sub ((List.sublist_append_right _ _).cons _)) K.o
    here := K.here
    small := K.small
    few := K.few }
theorem wvRes_of {w : World} {B : Nat} {a : Wv.At} {s : Wv.St} (H : Wv.WvIs w B a s.M s.h s.O) : Held w B (wvRes a s) ∧ WvOk a s := by
  obtain ⟨h1, k1⟩ := own_of H.mem
  obtain ⟨h2, k2⟩ := own_of H.opn
  refine ⟨?_, ⟨H.here, H.small, H.few, k1, k2⟩⟩
  have h3 : Held w B (ownRes 3 1 a.MA s.M.length a.mcap (ints s.M) ++ ownRes 164 2 a.OA s.O.length a.ocap (Wv.flat s.O)) := h1.join h2 fun i hi hj => by
    rw [ownRes_blks, Option.mem_toList] at hi hj
    exact H.ne_both hi hj
  have h0 : Held w B [.st a.sb 140 #[.slice a.MA s.M.length a.mcap, .int .i64 s.h, .slice a.OA s.O.length a.ocap]] := ⟨fun r hr => by simp only [List.mem_singleton] at hr; subst hr; exact ⟨H.base, H.blk⟩, by simp [blks, Res.blk]⟩
  refine h0.join h3 fun i hi hj => ?_
  simp only [blks, Res.blk, List.filterMap_cons, List.filterMap_nil, List.mem_singleton] at hi
  subst hi
  replace hj : a.sb ∈ blks (ownRes 3 1 a.MA s.M.length a.mcap (ints s.M) ++ ownRes 164 2 a.OA s.O.length a.ocap (Wv.flat s.O)) := hj
  rw [blks_append, List.mem_append, ownRes_blks, ownRes_blks, Option.mem_toList, Option.mem_toList] at hj
  rcases hj with hj | hj
  · exact H.ne_mem hj rfl
  · exact H.ne_opn hj rfl
theorem wv_turns {w w' : World} {B : Nat} {a : Wv.At} {s s' : Wv.St} (N : Wv.Next w B a s'.M s'.h s'.O w') : ∃ a', a'.sb = a.sb ∧ Turns w B (wvRes a s) (wvRes a' s') w' ∧ WvOk a' s' := by
  obtain ⟨a', hs, H, T, hn⟩ := N
  obtain ⟨h1, h2⟩ := wvRes_of H
  exact ⟨a', hs, ⟨h1, T.mono fun k hk => .inl (mem_wvRes.2 hk), fun k hk => (hn k (mem_wvRes.1 hk)).imp mem_wvRes.2 id⟩, h2⟩
theorem Turns_at (l1 l2 : List Res) {w w' : World} {B : Nat} {R R' : List Res} (N : Turns w B R R' w') (H : Held w B (l1 ++ R ++ l2)) : Turns w B (l1 ++ R ++ l2) (l1 ++ R' ++ l2) w' := by
  have p : ∀ X : List Res, (l1 ++ X ++ l2).Perm (X ++ (l1 ++ l2)) := fun X => by rw [List.append_assoc]; exact (List.perm_append_comm_assoc l1 X l2)
  exact ((N.frame (H.perm (p R))).perm' (p R).symm).perm (p R').symm
structure Lo where
  sv : Value
  bv : Value
  mv : Value
  wb : Nat
  wv : Value
  lv : Value
  lb : Nat
  ls : ByteArray
  lk : Nat
  db : Nat
  da : Wv.At
def ptrIf (b : Nat) (x : Bool) : Value := if x then .pointer (some ⟨b, 0, none⟩) else .pointer none
def oCells (L : Lo) (o : OS) : Array Value :=
  #[.int .i64 o.m.ip, .int .i64 o.m.handler, L.sv, L.bv, L.mv, .string o.m.out, .string o.m.inp, .int .i64 o.m.read, .int .i64 o.m.status, .int .i64 o.m.code,
    .pointer (some ⟨L.wb, 0, none⟩), .int .i64 o.here, .int .i64 o.base, ptrIf L.lb o.line.isSome, ptrIf L.db o.draft.isSome, .bool o.runs, .string o.last, L.lv]
def lineRes (L : Lo) : Option (List UInt8) → List Res
  | none => []
  | some _ => [.st L.lb 76 #[.string L.ls, .int .i64 L.lk]]
def draftRes (L : Lo) : Option Dr → List Res
  | none => []
  | some d => .st L.db 96 #[.pointer (some ⟨L.da.sb, 0, none⟩), .string d.name, .int .i64 d.at_] :: wvRes L.da d.s
def oRes (ob : Nat) (L : Lo) (o : OS) : List Res :=
  [.st ob 47 (oCells L o), .row 3 1 L.sv o.m.stack.length (ints o.m.stack), .row 3 1 L.bv o.m.back.length (ints o.m.back), .row 3 1 L.mv o.m.mem.length (ints o.m.mem),
    .st L.wb 59 #[L.wv], .row 62 4 L.wv o.words.length (wdsV o.words), .row 3 1 L.lv o.laid.length (ints o.laid)] ++ (lineRes L o.line ++ draftRes L o.draft)
structure Lok (L : Lo) (o : OS) : Prop where
  line : ∀ l, o.line = some l → l = L.ls.data.toList.drop L.lk ∧ L.lk ≤ L.ls.size ∧ L.ls.size ≤ 100000
  draft : ∀ d, o.draft = some d → WvOk L.da d.s
  pos : 0 < o.m.mem.length
structure OIs (w : World) (B ob : Nat) (L : Lo) (o : OS) : Prop where
  held : Held w B (oRes ob L o)
  lok : Lok L o
def Nx (w : World) (B ob : Nat) (L : Lo) (o o' : OS) (w' : World) : Prop := ∃ L', Turns w B (oRes ob L o) (oRes ob L' o') w' ∧ Lok L' o'
def Nxd (w : World) (B ob : Nat) (L : Lo) (o o' : OS) (w' : World) : Prop := ∃ L', Turns w B (oRes ob L o) (oRes ob L' o') w' ∧ Lok L' o' ∧ L'.da = L.da ∧ L'.db = L.db
section
variable {w w1 w' : World} {B ob : Nat} {L L1 : Lo} {o o1 o' : OS}
theorem Nxd.nx (N : Nxd w B ob L o o' w') : Nx w B ob L o o' w' := by
  obtain ⟨L2, N2, K2, _⟩ := N
  exact ⟨L2, N2, K2⟩
theorem Nxd.drewN (N : Nxd w B ob L o o' w') (n : Nat) : Nxd w B ob L o o' (w'.drewN n) := by
  obtain ⟨L2, N2, K2, D2⟩ := N
  exact ⟨L2, N2.drewN n, K2, D2⟩
theorem Nx.of (N : Turns w B (oRes ob L o) (oRes ob L1 o') w') (K : Lok L1 o') : Nx w B ob L o o' w' := ⟨L1, N, K⟩
theorem Nx.step (N : Turns w B (oRes ob L o) (oRes ob L1 o1) w1) (K : Nx w1 B ob L1 o1 o' w') : Nx w B ob L o o' w' := by
  obtain ⟨L2, N2, K2⟩ := K
  exact ⟨L2, N.trans N2, K2⟩
theorem Nx.drewN (N : Nx w B ob L o o' w') (n : Nat) : Nx w B ob L o o' (w'.drewN n) := by
  obtain ⟨L2, N2, K2⟩ := N
  exact ⟨L2, N2.drewN n, K2⟩
theorem OIs.nx (H : OIs w B ob L o) : Nx w B ob L o o w := ⟨L, Turns.refl H.held, H.lok⟩
theorem OIs.nxd (H : OIs w B ob L o) : Nxd w B ob L o o w := ⟨L, Turns.refl H.held, H.lok, rfl, rfl⟩
theorem OIs.next (H : OIs w B ob L o) (N : Turns w B (oRes ob L o) (oRes ob L1 o1) w1) (K : Lok L1 o1) : OIs w1 B ob L1 o1 := ⟨N.held, K⟩
theorem OIs.blk (H : OIs w B ob L o) : Blk w ob 47 (oCells L o) := H.held.blk (by simp [oRes])
theorem OIs.low (H : OIs w B ob L o) : B ≤ ob := (H.held.are _ (List.mem_append_left _ (List.mem_cons_self ..))).1
theorem OIs.rows (H : OIs w B ob L o) : Mc.StRows w B L.sv L.bv L.mv o.m := ⟨H.held.row (by simp [oRes]), H.held.row (by simp [oRes]), H.held.row (by simp [oRes])⟩
theorem OIs.laid (H : OIs w B ob L o) : Row w B 3 1 L.lv o.laid.length (ints o.laid) := H.held.row (by simp [oRes])
theorem oRes_words : oRes ob L o = [.st ob 47 (oCells L o), .row 3 1 L.sv o.m.stack.length (ints o.m.stack), .row 3 1 L.bv o.m.back.length (ints o.m.back), .row 3 1 L.mv o.m.mem.length (ints o.m.mem)] ++ wRes L.wb L.wv o.words ++ (.row 3 1 L.lv o.laid.length (ints o.laid) :: (lineRes L o.line ++ draftRes L o.draft)) := rfl
theorem OIs.words (H : OIs w B ob L o) : Held w B (wRes L.wb L.wv o.words) := by
  have h := H.held
  rw [oRes_words] at h
  exact h.left.right
theorem OIs.drewN (H : OIs w B ob L o) (n : Nat) : OIs (w.drewN n) B ob L o := ⟨H.held.drewN n, H.lok⟩
theorem OIs.alloc (H : OIs w B ob L o) (x : Obj) : OIs (w.alloc x) B ob L o := ⟨(Turns.lone H.held x).held, H.lok⟩
end
end Go.Proofs.YtompdfpjmdnhoabGreatDoor.Ou
namespace Go.Proofs.YtompdfpjmdnhoabGreatDoor.Ou
open Go.RowKit Go.Proofs.YtompdfpjmdnhoabGreatDoor.Rs Go.Proofs.YtompdfpjmdnhoabGreatDoor.Src
theorem dropWhile_eq {α : Type} (p : α → Bool) : ∀ l : List α, l.dropWhile p = l.drop (l.takeWhile p).length
  | [] => rfl
  | x :: r => by
    by_cases h : p x = true
    · rw [List.dropWhile_cons, if_pos h, List.takeWhile_cons, if_pos h, List.length_cons, List.drop_succ_cons]
      exact dropWhile_eq p r
    · rw [List.dropWhile_cons, if_neg h, List.takeWhile_cons, if_neg h]; rfl
theorem take_takeWhile {α : Type} (p : α → Bool) (l : List α) : l.take (l.takeWhile p).length = l.takeWhile p := List.prefix_iff_eq_take.1 (List.takeWhile_prefix p) |>.symm
theorem extract_list (s : ByteArray) (i j : Nat) : s.extract i j = ⟨((s.data.toList.drop i).take (j - i)).toArray⟩ := by
  apply ByteArray.ext
  apply Array.ext'
  rw [Lib.extract_data]
theorem src_from (s : ByteArray) (k : Nat) : s.data.toList.drop (from_ s.data.toList k) = (s.data.toList.drop k).dropWhile (isB true) := by
  unfold from_ skipB
  rw [dropWhile_eq, List.drop_drop]
theorem src_to (s : ByteArray) (k : Nat) : s.data.toList.drop (to_ s.data.toList k) = ((s.data.toList.drop k).dropWhile (isB true)).dropWhile (isB false) := by
  unfold to_ skipB
  rw [dropWhile_eq (isB false), ← src_from, List.drop_drop]
theorem src_word (s : ByteArray) (k : Nat) : s.extract (from_ s.data.toList k) (to_ s.data.toList k) = ⟨(((s.data.toList.drop k).dropWhile (isB true)).takeWhile (isB false)).toArray⟩ := by
  rw [extract_list, src_from]
  have e : to_ s.data.toList k - from_ s.data.toList k = (((s.data.toList.drop k).dropWhile (isB true)).takeWhile (isB false)).length := by
    unfold to_ skipB
    rw [src_from]
    omega
  rw [e, take_takeWhile]
theorem src_next (s : ByteArray) (k : Nat) : s.data.toList.drop (next_ s.data.toList k) = (((s.data.toList.drop k).dropWhile (isB true)).dropWhile (isB false)).drop 1 := by
  rw [← src_to, List.drop_drop]
  unfold next_
  by_cases h : to_ s.data.toList k + 1 ≤ s.data.toList.length
  · rw [Nat.min_eq_left h]
  · rw [Nat.min_eq_right (by omega), List.drop_of_length_le (Nat.le_refl _), List.drop_of_length_le (by omega)]
theorem src_is (s : ByteArray) (k : Nat) : decide (from_ s.data.toList k < s.size) = !((s.data.toList.drop k).dropWhile (isB true)).isEmpty := by
  rw [← src_from, Bool.eq_iff_iff]
  have : s.data.toList.length = s.size := rfl
  simp only [decide_eq_true_eq, Bool.not_eq_true', ← Bool.not_eq_true, List.isEmpty_iff_length_eq_zero, List.length_drop, this]
  omega
theorem src_turns {w w' : World} {B lb : Nat} {s : ByteArray} {k k' : Nat} (hb : B ≤ lb) (H : SrcIs w' lb s k') (hg : w.grownBy w' (some lb)) : Turns w B [.st lb 76 #[.string s, .int .i64 k]] [.st lb 76 #[.string s, .int .i64 k']] w' :=
  ⟨⟨fun r hr => by simp only [List.mem_singleton] at hr; subst hr; exact ⟨hb, H.1⟩, by simp [blks, Res.blk]⟩, Touch.of_grown hg fun k hk => .inl (by injection hk with hk; subst hk; simp [blks, Res.blk]), fun k hk => .inl (by simpa [blks, Res.blk] using hk)⟩
theorem line_split {ob : Nat} {L : Lo} {o : OS} {l : List UInt8} (h : o.line = some l) : oRes ob L o = [.st ob 47 (oCells L o), .row 3 1 L.sv o.m.stack.length (ints o.m.stack), .row 3 1 L.bv o.m.back.length (ints o.m.back), .row 3 1 L.mv o.m.mem.length (ints o.m.mem),
    .st L.wb 59 #[L.wv], .row 62 4 L.wv o.words.length (wdsV o.words), .row 3 1 L.lv o.laid.length (ints o.laid)] ++ [.st L.lb 76 #[.string L.ls, .int .i64 L.lk]] ++ draftRes L o.draft := by
  unfold oRes
  rw [h]
  rfl
theorem OIs.src {w : World} {B ob : Nat} {L : Lo} {o : OS} (H : OIs w B ob L o) {l : List UInt8} (h : o.line = some l) : SrcIs w L.lb L.ls L.lk ∧ B ≤ L.lb := by
  have h1 := H.held
  rw [line_split h] at h1
  have h2 := h1.left.right.are _ (List.mem_singleton.2 rfl)
  exact ⟨⟨h2.2, (H.lok.line l h).2⟩, h2.1⟩
theorem line_turns {w w' : World} {B ob : Nat} {L : Lo} {o : OS} {l : List UInt8} {k' : Nat} (H : OIs w B ob L o) (h : o.line = some l) (K : SrcIs w' L.lb L.ls k') (hg : w.grownBy w' (some L.lb)) :
    Turns w B (oRes ob L o) (oRes ob { L with lk := k' } { o with line := some (L.ls.data.toList.drop k') }) w' ∧ Lok { L with lk := k' } { o with line := some (L.ls.data.toList.drop k') } := by
  have H1 := H.held
  rw [line_split h] at H1
  have N := Turns_at _ _ (src_turns (k := L.lk) (H.src h).2 K hg) H1
  refine ⟨?_, ⟨fun l' e => ?_, H.lok.draft, H.lok.pos⟩⟩
  · rw [line_split h]
    rw [line_split (l := L.ls.data.toList.drop k') rfl]
    have e : oCells { L with lk := k' } { o with line := some (L.ls.data.toList.drop k') } = oCells L o := by unfold oCells; rw [h]; rfl
    rw [e]
    have e2 : draftRes { L with lk := k' } o.draft = draftRes L o.draft := by cases o.draft <;> rfl
    show Turns w B _ (_ ++ draftRes { L with lk := k' } o.draft) w'
    rw [e2]
    exact N
  · injection e with e
    exact ⟨e.symm, K.2⟩
end Go.Proofs.YtompdfpjmdnhoabGreatDoor.Ou
namespace Go.Proofs.YtompdfpjmdnhoabGreatDoor.Ou
open Go.RowKit Go.Proofs.YtompdfpjmdnhoabGreatDoor.Rs Go.Proofs.YtompdfpjmdnhoabGreatDoor.Src
theorem o_set {w : World} {B ob : Nat} {L L' : Lo} {o o' : OS} (H : OIs w B ob L o) (i : Nat) (u : Value) (e : (oCells L o).setIfInBounds i u = oCells L' o') (er : (oRes ob L' o').tail = (oRes ob L o).tail) : Turns w B (oRes ob L o) (oRes ob L' o') (w.setCell ⟨ob, i, none⟩ u) := by
  have N := Turns.set (R := (oRes ob L o).tail) (b := ob) (T := 47) (vs := oCells L o) H.held i u
  rw [e] at N
  have e1 : oRes ob L' o' = .st ob 47 (oCells L' o') :: (oRes ob L o).tail := by rw [← er]; rfl
  rw [e1]
  exact N
theorem OIs.cell {w : World} {B ob : Nat} {L : Lo} {o : OS} (H : OIs w B ob L o) (i : Nat) : w.cell? ⟨ob, i, none⟩ = (oCells L o)[i]? := H.blk.cell i
theorem OIs.frozen {w : World} {B ob : Nat} {L : Lo} {o : OS} (H : OIs w B ob L o) (i : Nat) : w.frozen? ⟨ob, i, none⟩ = false := H.blk.frozen i
theorem line_cell {w : World} {B ob : Nat} {L : Lo} {o : OS} (H : OIs w B ob L o) {l : List UInt8} (h : o.line = some l) : w.cell? ⟨ob, 13, none⟩ = some (.pointer (some ⟨L.lb, 0, none⟩)) := by
  have := H.cell 13
  simp only [oCells, List.getElem?_toArray, List.getElem?_cons_zero, List.getElem?_cons_succ, h] at this
  exact this
theorem line_none {w : World} {B ob : Nat} {L : Lo} {o : OS} (H : OIs w B ob L o) (h : o.line = none) : w.cell? ⟨ob, 13, none⟩ = some (.pointer none) := by
  have := H.cell 13
  simp only [oCells, List.getElem?_toArray, List.getElem?_cons_zero, List.getElem?_cons_succ, h] at this
  exact this
def ReadPost (w : World) (B ob : Nat) (L : Lo) (o : OS) (e : Ending) (w' : World) : Prop := e = .returned (.tuple #[.string (read o).1, .bool (read o).2.1]) ∧ Nxd w B ob L o (read o).2.2 w'
set_option maxHeartbeats 1000000 in
theorem read_any (B ob : Nat) (L : Lo) (o : OS) (w : World) (H : OIs w B ob L o) :
    Calls Tryz.prog 30 #[.pointer (some ⟨ob, 0, none⟩)] w (ReadPost w B ob L o) := by
  cases hl : o.line with
  | none =>
    have c13 := line_none H hl
    have e : read o = (ByteArray.empty, false, o) := by unfold read; rw [hl]
    have N := Lib.hid H.nxd
    unfold ReadPost
    rw [e]
    clear H e
    go_enter Tryz.func30, Tryz.ntmps30
    go_wp2_with fail
    refine (word_nil _).mono ?_
    rintro e w2 ⟨rfl, rfl⟩
    go_wp2_with fail
    go_ret2
    exact ⟨rfl, N.out⟩
  | some l =>
    have c13 := line_cell H hl
    obtain ⟨hs, hb⟩ := H.src hl
    obtain ⟨hle, hk, _⟩ := H.lok.line l hl
    have HW := Lib.hid (word_any L.lb L.lk L.ls w hs)
    have HH := Lib.hid H
    have Hl := Lib.hid hl
    have e : read o = if ((L.ls.data.toList.drop L.lk).dropWhile (isB true)).isEmpty = true then (ByteArray.empty, false, { o with line := some (L.ls.data.toList.drop (next_ L.ls.data.toList L.lk)) }) else (L.ls.extract (from_ L.ls.data.toList L.lk) (to_ L.ls.data.toList L.lk), true, { o with line := some (L.ls.data.toList.drop (next_ L.ls.data.toList L.lk)), last := L.ls.extract (from_ L.ls.data.toList L.lk) (to_ L.ls.data.toList L.lk) }) := by
      rw [src_next, src_word, ← hle]
      unfold read
      rw [hl]
    have HE := Lib.hid e
    have HI := Lib.hid (src_is L.ls L.lk)
    have HO := Lib.hid (src_word L.ls L.lk)
    clear e H hl hs hb hle hk
    go_enter Tryz.func30, Tryz.ntmps30
    go_wp2_with fail
    refine HW.out.mono ?_
    rintro e w2 ⟨rfl, hs2, hg⟩
    obtain ⟨N, K⟩ := line_turns HH.out Hl.out hs2 hg
    have N1 := Lib.hid N
    have K1 := Lib.hid K
    clear N K c13 hs2 hg HW
    generalize hw : L.ls.extract (from_ L.ls.data.toList L.lk) (to_ L.ls.data.toList L.lk) = W at *
    generalize hd : decide (from_ L.ls.data.toList L.lk < L.ls.size) = d at *
    have HD := Lib.hid hd
    clear hd hw
    cases d with
    | false =>
      have he : ((L.ls.data.toList.drop L.lk).dropWhile (isB true)).isEmpty = true := by have := HI.out; simpa using this.symm
      have hO := HO.out
      rw [List.isEmpty_iff.1 he] at hO
      have HR := Lib.hid (HE.out.trans (if_pos he))
      have HW : Hid (W = ByteArray.empty) := hO
      clear he hO
      go_wp2_with fail
      go_ret2
      refine ⟨?_, ?_⟩
      · rw [HR.out, HW.out]; rfl
      · rw [HR.out]
        exact ⟨_, N1.out, K1.out, rfl, rfl⟩
    | true =>
      have he : ¬ ((L.ls.data.toList.drop L.lk).dropWhile (isB true)).isEmpty = true := by have := HI.out; simpa using this.symm
      have HR := Lib.hid (HE.out.trans (if_neg he))
      have H2 := Lib.hid (HH.out.next N1.out K1.out)
      have f16 := H2.out.frozen 16
      have d16 := H2.out.cell 16
      simp only [oCells, List.getElem?_toArray, List.getElem?_cons_zero, List.getElem?_cons_succ] at d16
      clear he
      go_wp2_with fail
      go_ret2
      refine ⟨?_, ?_⟩
      · rw [HR.out]; rfl
      · rw [HR.out]
        exact ⟨_, N1.out.trans (o_set H2.out 16 (.string W) rfl rfl), ⟨K1.out.line, K1.out.draft, K1.out.pos⟩, rfl, rfl⟩
theorem st_eq (L : Lo) (o : OS) (s : List Int) (sv : Value) : oCells { L with sv := sv } { o with m := { o.m with stack := s } } = (oCells L o).setIfInBounds 2 sv := rfl
theorem stack_row {w : World} {B ob : Nat} {L : Lo} {o : OS} (H : OIs w B ob L o) : Row w B 3 1 L.sv o.m.stack.length (ints o.m.stack) := H.rows.st
theorem draft_sv (L : Lo) (x : Option Dr) (sv : Value) : draftRes { L with sv := sv } x = draftRes L x := by cases x <;> rfl
theorem line_sv (L : Lo) (x : Option (List UInt8)) (sv : Value) : lineRes { L with sv := sv } x = lineRes L x := by cases x <;> rfl
theorem stack_turns {w w' : World} {B ob : Nat} {L : Lo} {o : OS} {sv : Value} {s : List Int} (H : OIs w B ob L o) (N : Turns w B (oRes ob L o) ([.st ob 47 (oCells L o)] ++ .row 3 1 sv s.length (ints s) :: (oRes ob L o).tail.tail) w') :
    Turns w B (oRes ob L o) (oRes ob { L with sv := sv } { o with m := { o.m with stack := s } }) (w'.setCell ⟨ob, 2, none⟩ sv) ∧ Lok { L with sv := sv } { o with m := { o.m with stack := s } } := by
  have N2 := N.trans (Turns.set N.held 2 sv)
  rw [← st_eq L o s sv] at N2
  have e : oRes ob { L with sv := sv } { o with m := { o.m with stack := s } } = .st ob 47 (oCells { L with sv := sv } { o with m := { o.m with stack := s } }) :: .row 3 1 sv s.length (ints s) :: (oRes ob L o).tail.tail := by
    show _ ++ (lineRes { L with sv := sv } o.line ++ draftRes { L with sv := sv } o.draft) = _
    rw [draft_sv, line_sv]
    rfl
  rw [e]
  exact ⟨N2, ⟨H.lok.line, H.lok.draft, H.lok.pos⟩⟩
set_option maxHeartbeats 1000000 in
theorem push_any (B ob : Nat) (L : Lo) (o : OS) (w : World) (H : OIs w B ob L o) (hB : B ≤ w.heap.size) (v : Int) (hs : o.m.stack.length ≤ 48) :
    Calls Tryz.prog 64 #[.pointer (some ⟨ob, 0, none⟩), .int .i64 v] w fun e w' => e = .returned (.int .i64 (push o v).1) ∧ Nx w B ob L o (push o v).2 w' := by
  obtain ⟨SA, sc, hsv⟩ := (stack_row H).slice
  have c2 : w.cell? ⟨ob, 2, none⟩ = some (.slice SA o.m.stack.length sc) := by
    have := H.cell 2
    rw [← hsv]
    exact this
  unfold push
  by_cases h : 48 ≤ o.m.stack.length
  · rw [if_pos h]
    have N := Lib.hid H.nx
    have hi : (48 : Int) ≤ (o.m.stack.length : Int) := by omega
    have hd : decide (48 ≤ o.m.stack.length) = true := by simpa using h
    clear H
    go_enter Tryz.func64, Tryz.ntmps64
    go_wp2_with fail
    go_ret
    exact ⟨rfl, N.out⟩
  · rw [if_neg h]
    obtain ⟨i0, hi, hz0, hz1, hz2⟩ := info_parts Mc.infoInt
    have hr0 := stack_row H
    rw [hsv] at hr0
    have HR := Lib.hid hr0
    have HH := Lib.hid H
    have HV := Lib.hid hsv
    have hii : ¬ (48 : Int) ≤ (o.m.stack.length : Int) := by omega
    have hd : decide (48 ≤ o.m.stack.length) = false := by simpa using h
    clear h
    have hrd : Reads (w.alloc (.cells #[.int .i64 v] 3)) (w.alloc (.cells #[.int .i64 v] 3)).heap.size 1 (some ⟨w.heap.size, 0, none⟩) 1 (ints [v]) := by
      refine ⟨rfl, fun _ => ⟨_, rfl, by simp, fun j u hj => ?_⟩⟩
      rw [Go.WideShapes.add_plain, World.cell?, heap_alloc_new]
      simpa [ints] using hj
    have HRD := Lib.hid hrd
    have hB1 : B ≤ (w.alloc (.cells #[.int .i64 v] 3)).heap.size := by simp; omega
    have HRA := Lib.hid (hr0.touch (alloc_touch w (.cells #[.int .i64 v] 3) (fun _ => False)) (fun _ _ => id))
    clear H hr0 hsv hrd
    go_enter Tryz.func64, Tryz.ntmps64
    go_wp2_with (at_builtin; refine wpList_append_row _ rfl _ _ 31 rfl B 3 i0 (.int .i64 0) 1 8 Tryz.underlying31 hi hz0 hz1 hz2 rfl (by decide) _ _ _ rfl HRA.out _ _ 1 _ _ rfl HRD.out (ints_one [v]) ?c1 ?c2 hB1 ?_)
    case c1 => unfold maxLen; omega
    case c2 => omega
    intro v' w2 hrow hg hv
    have hi2 : roomBlock (.slice SA o.m.stack.length sc) = roomBlock L.sv := by rw [HV.out]
    rw [hi2] at hg hv
    have hrow2 : Row w2 B 3 1 v' (o.m.stack ++ [v]).length (ints (o.m.stack ++ [v])) := by
      rw [ints_append, List.length_append]
      exact hrow
    have N0 := Turns.lone HH.out.held (.cells #[.int .i64 v] 3)
    have N1 := N0.trans (Turns.grow_at [.st ob 47 (oCells L o)] (oRes ob L o).tail.tail N0.held hrow2 hg (by simpa using hv))
    obtain ⟨N2, K2⟩ := stack_turns HH.out N1
    have k2 : Blk w2 ob 47 (oCells L o) := N1.held.blk (List.mem_cons_self ..)
    have d2 : w2.cell? ⟨ob, 2, none⟩ = some (.slice SA o.m.stack.length sc) := by rw [← HV.out]; exact k2.cell 2
    have f2 := k2.frozen 2
    have NN := Lib.hid N2
    have KK := Lib.hid K2
    obtain ⟨VA, vc, rfl⟩ := hrow.slice
    clear N0 N1 N2 K2 hrow hrow2 hg hv k2 hi2 c2
    go_wp2_with fail
    go_ret
    exact ⟨rfl, _, NN.out, KK.out⟩
set_option maxHeartbeats 1000000 in
theorem pop_any (B ob : Nat) (L : Lo) (o : OS) (w : World) (H : OIs w B ob L o) (hs : o.m.stack.length ≤ 48) :
    Calls Tryz.prog 81 #[.pointer (some ⟨ob, 0, none⟩)] w fun e w' => e = .returned (.tuple #[.int .i64 (pop o).1, .int .i64 (pop o).2.1]) ∧ Nxd w B ob L o (pop o).2.2 w' := by
  obtain ⟨SA, sc, hsv⟩ := (stack_row H).slice
  have c2 : w.cell? ⟨ob, 2, none⟩ = some (.slice SA o.m.stack.length sc) := by
    have := H.cell 2
    rw [← hsv]
    exact this
  unfold pop
  by_cases h : o.m.stack.length = 0
  · rw [if_pos h]
    have N := Lib.hid H.nxd
    rw [h] at c2
    have e1 : wrap64 ((0 : Nat) - (1 : Int)) = -1 := by unfold wrap64; omega
    clear H
    go_enter Tryz.func81, Tryz.ntmps81
    go_wp2_with fail
    go_ret2
    exact ⟨rfl, N.out⟩
  · rw [if_neg h]
    obtain ⟨d, hd⟩ : ∃ d, o.m.stack.length = d + 1 := ⟨o.m.stack.length - 1, by omega⟩
    have hr := stack_row H
    have HN0 := Lib.hid hr
    rw [hsv] at hr
    obtain ⟨g, c', hv, hcap, hbg, hg, hcell, hfz⟩ := hr.form (by omega)
    injection hv with hv1 _ hv3
    subst hv1 hv3
    have hx := hcell d (by omega)
    rw [ints_get _ _ (by omega)] at hx
    have ht : Mc.top o.m.stack = o.m.stack.getD d 0 := by unfold Mc.top; rw [hd]; rfl
    have HT := Lib.hid ht
    have hrw : Row w B 3 1 (.slice (some ⟨g, 0, none⟩) d (c' + 1)) d ((ints o.m.stack).take (d * 1)) := by
      have h9 := hr.take (k := d) (by omega)
      exact h9
    have e9 : (ints o.m.stack).take (d * 1) = ints o.m.stack.dropLast := by
      rw [List.dropLast_eq_take, hd, Nat.mul_one]
      unfold ints
      rw [List.map_take]
      rfl
    rw [e9] at hrw
    have hl9 : o.m.stack.dropLast.length = d := by rw [List.length_dropLast, hd]; rfl
    have N1 := Turns.turn_at [.st ob 47 (oCells L o)] (oRes ob L o).tail.tail H.held (v' := .slice (some ⟨g, 0, none⟩) d (c' + 1)) (n' := o.m.stack.dropLast.length) (xs' := ints o.m.stack.dropLast) (by rw [hl9]; exact hrw) (fun k hk => by rw [hsv]; exact hk)
    obtain ⟨N2, K2⟩ := stack_turns H N1
    have NN := Lib.hid N2
    have KK := Lib.hid K2
    have f2 := H.frozen 2
    rw [hd] at c2
    have e1 : wrap64 (d : Int) = d := by clear NN KK N1 N2 K2 HT HN0; unfold wrap64; omega
    have hi1 : (d : Int) < (d : Int) + 1 := by omega
    have hi0 : (0 : Int) ≤ (d : Int) := by omega
    have hcz : (d : Int) ≤ (c' : Int) + 1 := by omega
    clear H hr N1 N2 K2 hrw hcell hfz hsv hl9 e9 ht hd h hs HN0
    rw [HT.out]
    generalize o.m.stack.getD d 0 = x at *
    go_enter Tryz.func81, Tryz.ntmps81
    go_wp2_with fail
    go_ret2
    exact ⟨rfl, _, NN.out, KK.out, rfl, rfl⟩
end Go.Proofs.YtompdfpjmdnhoabGreatDoor.Ou
namespace Go.Proofs.YtompdfpjmdnhoabGreatDoor.Ou
open Go.RowKit Go.Proofs.YtompdfpjmdnhoabGreatDoor.Rs Go.Proofs.YtompdfpjmdnhoabGreatDoor.Src
set_option maxRecDepth 100000 in
set_option maxHeartbeats 1000000 in
theorem name_any (B ob : Nat) (L : Lo) (o : OS) (w : World) (H : OIs w B ob L o) (W : Wo o) :
    Calls Tryz.prog 87 #[.pointer (some ⟨ob, 0, none⟩)] w fun e w' => e = .returned (.tuple #[.string (name o).1, .int .i64 (name o).2.1]) ∧ Nxd w B ob L o (name o).2.2 w' := by
  have HR := Lib.hid (read_any B ob L o w H)
  unfold ReadPost at HR
  have HK := Lib.hid (read_kept o W).2
  have HE : Hid (name o = if (read o).2.1 = false ∨ rightN (read o).1 = false then (ByteArray.empty, -16, (read o).2.2) else ((read o).1, 0, (read o).2.2)) := rfl
  clear H W
  generalize read o = r at *
  obtain ⟨n, b, o2⟩ := r
  go_enter Tryz.func87, Tryz.ntmps87
  go_wp2_with fail
  refine HR.out.mono ?_
  rintro e w2 ⟨rfl, N⟩
  have NN := Lib.hid N
  clear N HR
  cases b with
  | false =>
    have HE := Lib.hid (HE.out.trans (if_pos (.inl rfl)))
    go_wp2_with fail
    go_ret2
    rw [HE.out]
    exact ⟨rfl, NN.out⟩
  | true =>
    obtain ⟨_, _, _, _, _, hn, _⟩ := HK.out rfl
    have HRR := Lib.hid (fun W => right_any n W (Nat.le_trans hn (by omega)))
    cases hr : rightN n with
    | false =>
      rw [hr] at HRR
      have HE := Lib.hid (HE.out.trans (if_pos (.inr hr)))
      clear hn hr HK
      go_wp2_with fail
      refine (HRR.out _).mono ?_
      rintro e w3 ⟨rfl, rfl⟩
      go_wp2_with fail
      go_ret2
      rw [HE.out]
      exact ⟨rfl, NN.out⟩
    | true =>
      rw [hr] at HRR
      have HE := Lib.hid (HE.out.trans (if_neg (by simp [hr])))
      clear hn hr HK
      go_wp2_with fail
      refine (HRR.out _).mono ?_
      rintro e w3 ⟨rfl, rfl⟩
      go_wp2_with fail
      go_ret2
      rw [HE.out]
      exact ⟨rfl, NN.out⟩
theorem mem_cell {w : World} {B ob : Nat} {L : Lo} {o : OS} (H : OIs w B ob L o) : ∃ MA mc, L.mv = .slice MA o.m.mem.length mc ∧ w.cell? ⟨ob, 4, none⟩ = some (.slice MA o.m.mem.length mc) := by
  obtain ⟨MA, mc, h⟩ := H.rows.me.slice
  refine ⟨MA, mc, h, ?_⟩
  have := H.cell 4
  rw [← h]
  exact this
theorem here_cell {w : World} {B ob : Nat} {L : Lo} {o : OS} (H : OIs w B ob L o) : w.cell? ⟨ob, 11, none⟩ = some (.int .i64 o.here) := H.cell 11
theorem words_cell {w : World} {B ob : Nat} {L : Lo} {o : OS} (H : OIs w B ob L o) : w.cell? ⟨ob, 10, none⟩ = some (.pointer (some ⟨L.wb, 0, none⟩)) := H.cell 10
set_option maxHeartbeats 1000000 in
theorem room_any (B ob : Nat) (L : Lo) (o : OS) (w : World) (H : OIs w B ob L o) (n : Nat) (hm : o.m.mem.length ≤ 5000) (hh : o.here ≤ 5000) :
    Calls Tryz.prog 123 #[.pointer (some ⟨ob, 0, none⟩), .int .i64 n] w fun e w' => e = .returned (.int .i64 (room o n)) ∧ ∃ q, w' = w.drewN q := by
  obtain ⟨MA, mc, _, c4⟩ := mem_cell H
  have c11 := here_cell H
  unfold room
  have e1 : wrap64 ((o.m.mem.length : Int) - (o.here : Int)) = (o.m.mem.length : Int) - (o.here : Int) := by clear H; unfold wrap64; omega
  clear H
  generalize o.m.mem.length = ml at *
  generalize o.here = h at *
  by_cases hlt : (ml : Int) - (h : Int) < (n : Int)
  · rw [if_pos hlt]
    go_enter Tryz.func123, Tryz.ntmps123
    go_wp2
    go_quiet (fail)
    go_wp2_with fail
    go_ret
    exact ⟨rfl, nq, rfl⟩
  · rw [if_neg hlt]
    go_enter Tryz.func123, Tryz.ntmps123
    go_wp2
    go_quiet (fail)
    go_wp2_with fail
    go_ret
    exact ⟨rfl, nq, rfl⟩
theorem turns_side {w w1 w2 w3 : World} {B b0 : Nat} {R R' : List Res} (H : Held w B R) (k : Below w.heap.size w w1) (N : Turns w1 B R R' w2) (h1 : w.heap.size ≤ b0) (h2 : b0 < w1.heap.size) (T : Touch w2 w3 (fun k => k = b0)) : Turns w B R R' w3 := by
  have hne : ∀ i ∈ blks R', i ≠ b0 := fun i hi e => by
    rcases N.new i hi with h | h
    · have := (H.low h).2; omega
    · omega
  have T1 : Touch w w2 (· ∈ blks R) := (Touch.of_below k (· ∈ blks R)).trans N.touch fun i hi => .inl hi
  refine ⟨N.held.touch T fun i hi => hne i hi, T1.trans T fun i hi => .inr (by omega), fun i hi => ?_⟩
  rcases N.new i hi with h | h
  · exact .inl h
  · exact .inr (by have := k.size; omega)
end Go.Proofs.YtompdfpjmdnhoabGreatDoor.Ou
namespace Go.Proofs.YtompdfpjmdnhoabGreatDoor.Ou
open Go.RowKit Go.Proofs.YtompdfpjmdnhoabGreatDoor.Rs Go.Proofs.YtompdfpjmdnhoabGreatDoor.Src
theorem row_lay {w2 : World} {B g c h : Nat} {M L : List Int} {cur : Array Value} (hb : B ≤ g) (hM : M.length ≤ c + 1) (hc : c + 1 ≤ maxLen) (hs : cur.size = (c + 1) * 1) (ht : cur.toList.take (M.length * 1) = ints M) (hr : h + L.length ≤ M.length)
    (Hw : w2.heap[g]? = some (.cells (cur.toList.take (0 + h) ++ ints L ++ cur.toList.drop (0 + h + (ints L).length)).toArray 3 (0, 0))) :
    Row w2 B 3 1 (.slice (some ⟨g, 0, none⟩) M.length (c + 1)) (Wv.lay M h L).length (ints (Wv.lay M h L)) := by
  have hll := Wv.lay_length M h L hr
  rw [hll]
  refine ⟨by simp [ints, hll], .inr ⟨g, c, _, rfl, hb, Hw, hM, hc, ?_, ?_⟩⟩
  · have : cur.toList.length = cur.size := rfl
    have h2 : (ints L).length = L.length := by simp [ints]
    simp only [List.size_toArray, List.length_append, List.length_take, List.length_drop, h2]
    omega
  · have hcl : M.length ≤ cur.toList.length := by have : cur.toList.length = cur.size := rfl; omega
    show List.take (M.length * 1) (cur.toList.take (0 + h) ++ ints L ++ cur.toList.drop (0 + h + (ints L).length)) = _
    rw [Nat.mul_one] at ht ⊢
    have h2 : (ints L).length = L.length := by simp [ints]
    have h3 : (ints M).length = M.length := by simp [ints]
    have e1 : cur.toList = ints M ++ cur.toList.drop M.length := by rw [← ht, List.take_append_drop]
    have e2 : cur.toList.take (0 + h) = ints (M.take h) := by
      rw [Nat.zero_add, e1, List.take_append_of_le_length (by omega)]
      unfold ints
      rw [List.map_take]
    have e3 : cur.toList.drop (0 + h + (ints L).length) = ints (M.drop (h + L.length)) ++ cur.toList.drop M.length := by
      conv => lhs; rw [e1]
      rw [h2, Nat.zero_add, List.drop_append_of_le_length (by omega)]
      unfold ints
      rw [List.map_drop]
    rw [e2, e3, ← List.append_assoc]
    have e4 : (ints (M.take h) ++ ints L ++ ints (M.drop (h + L.length))) = ints (Wv.lay M h L) := by
      unfold Wv.lay
      simp [ints]
    rw [e4, List.take_append_of_le_length (by simp [ints, hll]), List.take_of_length_le (by simp [ints, hll])]
def memO (o : OS) (M : List Int) : OS := { o with m := { o.m with mem := M } }
theorem mem_turns {w w2 : World} {B ob g : Nat} {L : Lo} {o : OS} {M : List Int} {cap : Nat} (H : OIs w B ob L o) (hv : L.mv = .slice (some ⟨g, 0, none⟩) o.m.mem.length (cap + 1)) (hr : Row w2 B 3 1 L.mv M.length (ints M)) (hl : M.length = o.m.mem.length) (T : Touch w w2 (fun k => k = g)) :
    Turns w B (oRes ob L o) (oRes ob L (memO o M)) w2 ∧ Lok L (memO o M) := by
  have N : Turns w B [.row 3 1 L.mv o.m.mem.length (ints o.m.mem)] [.row 3 1 L.mv M.length (ints M)] w2 :=
    ⟨⟨fun r h => by simp only [List.mem_singleton] at h; subst h; exact hr, by rw [hv]; simp [blks, Res.blk, roomBlock]⟩, T.mono fun k hk => .inl (by subst hk; rw [hv]; simp [blks, Res.blk, roomBlock]), fun k hk => .inl (by rw [hv] at hk ⊢; simpa [blks, Res.blk, roomBlock] using hk)⟩
  have N2 := Turns_at [.st ob 47 (oCells L o), .row 3 1 L.sv o.m.stack.length (ints o.m.stack), .row 3 1 L.bv o.m.back.length (ints o.m.back)] (.st L.wb 59 #[L.wv] :: .row 62 4 L.wv o.words.length (wdsV o.words) :: .row 3 1 L.lv o.laid.length (ints o.laid) :: (lineRes L o.line ++ draftRes L o.draft)) N H.held
  exact ⟨N2, ⟨H.lok.line, H.lok.draft, by show 0 < M.length; rw [hl]; exact H.lok.pos⟩⟩
end Go.Proofs.YtompdfpjmdnhoabGreatDoor.Ou
namespace Go.Proofs.YtompdfpjmdnhoabGreatDoor.Ou
open Go.RowKit Go.Proofs.YtompdfpjmdnhoabGreatDoor.Rs Go.Proofs.YtompdfpjmdnhoabGreatDoor.Src
def layK (o : OS) (C : List Int) (k : Nat) : OS := { o with m := { o.m with mem := Wv.lay o.m.mem o.here C }, here := o.here + k, laid := o.laid ++ cellsFrom o.here k }
theorem cellsFrom_succ (a k : Nat) : cellsFrom a (k + 1) = cellsFrom a k ++ [((a + k : Nat) : Int)] := by unfold cellsFrom; rw [List.range_succ, List.map_append]; rfl
theorem cellsFrom_length (a k : Nat) : (cellsFrom a k).length = k := by simp [cellsFrom]
theorem layK_succ (o : OS) (C : List Int) (k : Nat) : layK o C (k + 1) = { layK o C k with laid := (layK o C k).laid ++ [((layK o C k).here : Int)], here := (layK o C k).here + 1 } := by
  unfold layK
  rw [cellsFrom_succ, ← List.append_assoc]
  rfl
theorem layK_zero (o : OS) (C : List Int) : layK o C 0 = memO o (Wv.lay o.m.mem o.here C) := by
  unfold layK memO cellsFrom
  simp
theorem laid_cell {w : World} {B ob : Nat} {L : Lo} {o : OS} (H : OIs w B ob L o) : ∃ VA vc, L.lv = .slice VA o.laid.length vc ∧ w.cell? ⟨ob, 17, none⟩ = some (.slice VA o.laid.length vc) := by
  obtain ⟨MA, mc, h⟩ := H.laid.slice
  refine ⟨MA, mc, h, ?_⟩
  have := H.cell 17
  rw [← h]
  exact this
theorem laid_turns {w w1 w3 : World} {B ob : Nat} {L : Lo} {o : OS} {v' : Value} {n : Nat} {x : Int} (H : OIs w B ob L o) (k : Below w.heap.size w w1) (hn : n = o.laid.length) (hr : Row w3 B 3 1 v' (n + 1) (ints o.laid ++ ints [x])) (hg : w1.grownBy w3 (roomBlock L.lv))
    (hv : ∀ k, roomBlock v' = some k → roomBlock L.lv = some k ∨ k = w1.heap.size) :
    Turns w B (oRes ob L o) (oRes ob { L with lv := v' } { o with laid := o.laid ++ [x] }) (w3.setCell ⟨ob, 17, none⟩ v') ∧ Lok { L with lv := v' } { o with laid := o.laid ++ [x] } ∧ Blk w3 ob 47 (oCells L o) := by
  subst hn
  have hr2 : Row w3 B 3 1 v' (o.laid ++ [x]).length (ints (o.laid ++ [x])) := by rw [ints_append, List.length_append]; exact hr
  have N1 := Turns.of_below H.held k (Nat.le_refl _)
  have N2 := N1.trans (Turns.grow_at ([.st ob 47 (oCells L o), .row 3 1 L.sv o.m.stack.length (ints o.m.stack), .row 3 1 L.bv o.m.back.length (ints o.m.back), .row 3 1 L.mv o.m.mem.length (ints o.m.mem), .st L.wb 59 #[L.wv], .row 62 4 L.wv o.words.length (wdsV o.words)]) (lineRes L o.line ++ draftRes L o.draft) N1.held hr2 hg hv)
  have kb : Blk w3 ob 47 (oCells L o) := N2.held.blk (List.mem_cons_self ..)
  have N3 := N2.trans (Turns.set N2.held 17 v')
  have e : oRes ob { L with lv := v' } { o with laid := o.laid ++ [x] } = .st ob 47 ((oCells L o).setIfInBounds 17 v') :: ([.row 3 1 L.sv o.m.stack.length (ints o.m.stack), .row 3 1 L.bv o.m.back.length (ints o.m.back), .row 3 1 L.mv o.m.mem.length (ints o.m.mem), .st L.wb 59 #[L.wv], .row 62 4 L.wv o.words.length (wdsV o.words)] ++ .row 3 1 v' (o.laid ++ [x]).length (ints (o.laid ++ [x])) :: (lineRes L o.line ++ draftRes L o.draft)) := by
    have e1 : lineRes { L with lv := v' } o.line = lineRes L o.line := by cases o.line <;> rfl
    have e2 : draftRes { L with lv := v' } o.draft = draftRes L o.draft := by cases o.draft <;> rfl
    show _ ++ (lineRes { L with lv := v' } o.line ++ draftRes { L with lv := v' } o.draft) = _
    rw [e1, e2]
    rfl
  rw [e]
  exact ⟨N3, ⟨H.lok.line, H.lok.draft, H.lok.pos⟩, kb⟩
theorem wrap_succ {k n : Nat} (h : k ≤ n) (hn : n ≤ 1000000) : wrap64 ((k : Int) + 1) = ((k + 1 : Nat) : Int) := by unfold wrap64; omega
theorem lt_cast {a b : Nat} (h : a < b) : (a : Int) < (b : Int) := by omega
theorem fits1 {n : Nat} (h : n ≤ 1000005000) : n + 1 ≤ maxLen ∧ (n + 1) * 8 ≤ 140737488355328 := by unfold maxLen; omega
theorem here_le {h k n : Nat} (a : h ≤ 5000) (b : k ≤ n) (c : n ≤ 5000) : h + k ≤ 10000 := by omega
theorem laid_le (o : OS) (k n : Nat) (hl : o.laid.length ≤ 1000000000) (b : k ≤ n) (c : n ≤ 5000) : (o.laid ++ cellsFrom o.here k).length ≤ 1000005000 := by rw [List.length_append, cellsFrom_length]; omega
theorem le_of_not {k n : Nat} (h : k ≤ n) (h2 : ¬ k < n) : k = n := by omega
theorem sub_lt {g k n : Nat} (h : g = n - k) (h2 : k < n) : n - (k + 1) < g := by omega
set_option maxHeartbeats 8000000 in
set_option maxRecDepth 100000 in
theorem lay_any (B ob : Nat) (L : Lo) (o : OS) (w : World) (H : OIs w B ob L o) (hB : B ≤ w.heap.size) (C : List Int) (n : Nat) (hn : n = C.length) (lb : Nat) (c : Nat)
    (hL : ∀ j v, (ints C)[j]? = some v → w.cell? ((⟨lb, 0, none⟩ : Addr).add j) = some v) (hpos : 0 < C.length) (hroom : o.here + C.length ≤ o.m.mem.length) (hm : o.m.mem.length ≤ 5000) (hl : o.laid.length ≤ 1000000000) :
    Calls Tryz.prog 111 #[.pointer (some ⟨ob, 0, none⟩), .slice (some ⟨lb, 0, none⟩) n c] w fun e w' => e = .returned (.tuple #[]) ∧ Nxd w B ob L o (layO o C) w' := by
  have hr := H.rows.me
  obtain ⟨MA, mc, hmv, c4⟩ := mem_cell H
  have hr2 := hr
  rw [hmv] at hr2
  rcases hr2.2 with ⟨h0, _⟩ | ⟨g, cap, cur, hv, hbg, hcur, hcap, hmx, hsz, htk⟩
  · omega
  injection hv with hv1 _ hv3
  subst hv1 hv3
  have c11 := here_cell H
  have hne : ob ≠ g := by
    have := H.held.ne (R := (oRes ob L o).tail) (r1 := .st ob 47 (oCells L o)) (r2 := .row 3 1 L.mv o.m.mem.length (ints o.m.mem)) (k1 := ob) (k2 := g) (by simp [oRes]) rfl (by rw [hmv]; rfl)
    exact this
  have d0 : w.cell? ⟨ob, 0, none⟩ = some (.int .i64 o.m.ip) := H.cell 0
  have d1 : w.cell? ⟨ob, 1, none⟩ = some (.int .i64 o.m.handler) := H.cell 1
  have f1 := H.frozen 1
  have HH := Lib.hid H
  have HL := Lib.hid hL
  have HM := Lib.hid hmv
  subst hn
  have hh0 : (0 : Int) ≤ (o.here : Int) := by omega
  have hh1 : (o.here : Int) ≤ (o.m.mem.length : Int) := by omega
  have hh2 : (o.here : Int) ≤ (cap : Int) + 1 := by omega
  have hcapne : ¬ (cap + 1 = o.here) := by omega
  have HHm : Hid (o.here ≤ 5000) := by show _ ≤ _; omega
  have HRL : Hid (∀ w2, w2.heap[g]? = some (.cells (cur.toList.take (0 + o.here) ++ ints C ++ cur.toList.drop (0 + o.here + (ints C).length)).toArray 3 (0, 0)) → Row w2 B 3 1 (.slice (some ⟨g, 0, none⟩) o.m.mem.length (cap + 1)) (Wv.lay o.m.mem o.here C).length (ints (Wv.lay o.m.mem o.here C))) := fun w2 h2 => row_lay hbg hcap hmx hsz htk hroom h2
  have HLL := Lib.hid (Wv.lay_length o.m.mem o.here C hroom)
  have hCs : C.length ≤ 5000 := by omega
  clear H hr hr2 hmv
  go_enter Tryz.func111, Tryz.ntmps111
  go_upto_region 0 with fail
  have HS0 : (fun W : World => W.cell? ⟨ob, 4, none⟩ = some (.slice (some ⟨g, 0, none⟩) o.m.mem.length (cap + 1)) ∧ W.cell? ⟨ob, 11, none⟩ = some (.int .i64 (o.here : Int))) w.drew := ⟨c4, c11⟩
  have HSS := Lib.hid HS0
  refine Ph.wp_region_U 12 (fun W : World => W.cell? ⟨ob, 4, none⟩ = some (.slice (some ⟨g, 0, none⟩) o.m.mem.length (cap + 1)) ∧ W.cell? ⟨ob, 11, none⟩ = some (.int .i64 (o.here : Int))) (by kernel_rfl) ?_
  change Ph.wpU _ _ _ _ _ _ 12 #[false, false, false, false, false, false, false, false, false, false, false, false] _ _
  refine Ph.U_take (i := 0) (oi := { dst := some 4, op := .move (.tmp 0), type := 27, pos := "outer.go:248", after := #[], guard := none }) (v := .pointer (some ⟨ob, 0, none⟩)) rfl (by kernel_rfl) (by kernel_rfl) (by kernel_rfl) (by kernel_rfl) (fun _ _ _ h => h) (Or.inl ⟨by rfl, ?_⟩) (by assumption) ?_
  · intro W hSw; (try dsimp only at hSw); go_simp
  simp only [Act.put, List.setIfInBounds_toArray, List.set_cons_zero, List.set_cons_succ]
  refine Ph.U_take (i := 1) (oi := { dst := some 5, op := .nilCheck (.tmp 4), type := 0, pos := "outer.go:248", after := #[{ on := 0, ground := .data }], guard := none }) (v := .pointer (some ⟨ob, 0, none⟩)) rfl (by kernel_rfl) (by kernel_rfl) (by kernel_rfl) (by kernel_rfl) (fun _ _ _ h => h) (Or.inl ⟨by rfl, ?_⟩) (by assumption) ?_
  · intro W hSw; (try dsimp only at hSw); go_simp
  simp only [Act.put, List.setIfInBounds_toArray, List.set_cons_zero, List.set_cons_succ]
  refine Ph.U_take (i := 2) (oi := { dst := some 6, op := .fieldAddr 47 (.tmp 5) 0, type := 0, pos := "outer.go:248", after := #[{ on := 1, ground := .data }], guard := none }) (v := .pointer (some ⟨ob, 0, none⟩)) rfl (by kernel_rfl) (by kernel_rfl) (by kernel_rfl) (by kernel_rfl) (fun _ _ _ h => h) (Or.inl ⟨by rfl, ?_⟩) (by assumption) ?_
  · intro W hSw; (try dsimp only at hSw); go_simp
  simp only [Act.put, List.setIfInBounds_toArray, List.set_cons_zero, List.set_cons_succ]
  refine Ph.U_take (i := 3) (oi := { dst := some 7, op := .fieldAddr 33 (.tmp 6) 4, type := 0, pos := "outer.go:248", after := #[{ on := 2, ground := .data }], guard := none }) (v := .pointer (some ⟨ob, 4, none⟩)) rfl (by kernel_rfl) (by kernel_rfl) (by kernel_rfl) (by kernel_rfl) (fun _ _ _ h => h) (Or.inl ⟨by rfl, ?_⟩) (by assumption) ?_
  · intro W hSw; (try dsimp only at hSw); go_simp
  simp only [Act.put, List.setIfInBounds_toArray, List.set_cons_zero, List.set_cons_succ]
  refine Ph.U_take (i := 4) (oi := { dst := some 8, op := .load 31 (.tmp 7), type := 31, pos := "outer.go:248", after := #[{ on := 3, ground := .data }], guard := none }) (v := .slice (some ⟨g, 0, none⟩) o.m.mem.length (cap + 1)) rfl (by kernel_rfl) (by kernel_rfl) (by kernel_rfl) (by kernel_rfl) (fun _ _ _ h => h) (Or.inl ⟨by rfl, ?_⟩) (by assumption) ?_
  · intro W hSw; (try dsimp only at hSw); go_simp
  simp only [Act.put, List.setIfInBounds_toArray, List.set_cons_zero, List.set_cons_succ]
  refine Ph.U_take (i := 5) (oi := { dst := some 9, op := .move (.tmp 0), type := 27, pos := "outer.go:248", after := #[], guard := none }) (v := .pointer (some ⟨ob, 0, none⟩)) rfl (by kernel_rfl) (by kernel_rfl) (by kernel_rfl) (by kernel_rfl) (fun _ _ _ h => h) (Or.inl ⟨by rfl, ?_⟩) (by assumption) ?_
  · intro W hSw; (try dsimp only at hSw); go_simp
  simp only [Act.put, List.setIfInBounds_toArray, List.set_cons_zero, List.set_cons_succ]
  refine Ph.U_take (i := 6) (oi := { dst := some 10, op := .nilCheck (.tmp 9), type := 0, pos := "outer.go:248", after := #[{ on := 5, ground := .data }], guard := none }) (v := .pointer (some ⟨ob, 0, none⟩)) rfl (by kernel_rfl) (by kernel_rfl) (by kernel_rfl) (by kernel_rfl) (fun _ _ _ h => h) (Or.inl ⟨by rfl, ?_⟩) (by assumption) ?_
  · intro W hSw; (try dsimp only at hSw); go_simp
  simp only [Act.put, List.setIfInBounds_toArray, List.set_cons_zero, List.set_cons_succ]
  refine Ph.U_take (i := 7) (oi := { dst := some 11, op := .fieldAddr 47 (.tmp 10) 2, type := 0, pos := "outer.go:248", after := #[{ on := 6, ground := .data }], guard := none }) (v := .pointer (some ⟨ob, 11, none⟩)) rfl (by kernel_rfl) (by kernel_rfl) (by kernel_rfl) (by kernel_rfl) (fun _ _ _ h => h) (Or.inl ⟨by rfl, ?_⟩) (by assumption) ?_
  · intro W hSw; (try dsimp only at hSw); go_simp
  simp only [Act.put, List.setIfInBounds_toArray, List.set_cons_zero, List.set_cons_succ]
  refine Ph.U_take (i := 8) (oi := { dst := some 12, op := .load 3 (.tmp 11), type := 3, pos := "outer.go:248", after := #[{ on := 7, ground := .data }], guard := none }) (v := .int .i64 (o.here : Int)) rfl (by kernel_rfl) (by kernel_rfl) (by kernel_rfl) (by kernel_rfl) (fun _ _ _ h => h) (Or.inl ⟨by rfl, ?_⟩) (by assumption) ?_
  · intro W hSw; (try dsimp only at hSw); go_simp
  simp only [Act.put, List.setIfInBounds_toArray, List.set_cons_zero, List.set_cons_succ]
  refine Ph.U_take (i := 9) (oi := { dst := some 13, op := .slice 31 (.tmp 8) (some (.tmp 12)) none none, type := 31, pos := "outer.go:248", after := #[{ on := 4, ground := .data }, { on := 8, ground := .data }], guard := none }) (v := .slice (some ⟨g, o.here, none⟩) (o.m.mem.length - o.here) (cap + 1 - o.here)) rfl (by kernel_rfl) (by kernel_rfl) (by kernel_rfl) (by kernel_rfl) (fun _ _ _ h => h) (Or.inl ⟨by rfl, ?_⟩) (by assumption) ?_
  · intro W hSw; (try dsimp only at hSw); go_simp
  simp only [Act.put, List.setIfInBounds_toArray, List.set_cons_zero, List.set_cons_succ]
  refine Ph.U_take (i := 10) (oi := { dst := some 14, op := .move (.tmp 1), type := 31, pos := "outer.go:248", after := #[], guard := none }) (v := .slice (some ⟨lb, 0, none⟩) C.length c) rfl (by kernel_rfl) (by kernel_rfl) (by kernel_rfl) (by kernel_rfl) (fun _ _ _ h => h) (Or.inl ⟨by rfl, ?_⟩) (by assumption) ?_
  · intro W hSw; (try dsimp only at hSw); go_simp
  simp only [Act.put, List.setIfInBounds_toArray, List.set_cons_zero, List.set_cons_succ]
  refine Ph.U_ready (rs := [11]) (by kernel_rfl) (by simp) ?_
  refine Ph.AllReadyU.cons rfl (fun K hK => ?_) Ph.AllReadyU.nil
  refine Wv.step_copy_row rfl (.tmp 13) (.tmp 14) 31 31 rfl 3 Tryz.underlying31 Wv.infoInt g (0 + o.here) (o.m.mem.length - o.here) (cap + 1 - o.here) ⟨lb, 0, none⟩ C.length c (by simp [Act.eval, Act.put]) (by simp [Act.eval, Act.put]) cur 3 hcur (ints C) (by rw [ints_length]; exact (Nat.min_eq_left (by omega)).symm) hL (by simp [ints]; omega) (by intro v hv; simp [ints] at hv; obtain ⟨x, _, rfl⟩ := hv; rfl) ob hne _ _ d0 d1 f1 ?_
  intro w2 d0' d1' e1' Hw
  have HTw : Touch w w2 (fun k => k = g) := (by have := Hw.out.2; exact ⟨this.os, this.tape, this.output, this.size, this.block⟩)
  refine hK.out _ _ (fun _ => ⟨Wv.touch_cell HTw c4 hne, Wv.touch_cell HTw c11 hne⟩) ?_
  clear hK K
  simp only [Act.put, List.setIfInBounds_toArray, List.set_cons_zero, List.set_cons_succ]
  refine Ph.U_done (by kernel_rfl) ?_ _
  clear HS0 HSS HTw
  all_goals
    have hT0 : Touch w w2 (fun k => k = g) := (by have := Hw.out.2; exact ⟨this.os, this.tape, this.output, this.size, this.block⟩)
    obtain ⟨N1, K1⟩ := mem_turns (cap := cap) HH.out HM.out (by rw [HM.out]; exact HRL.out w2 Hw.out.1) HLL.out hT0
    rw [← layK_zero] at N1 K1
    have HN1 := Lib.hid N1
    have HK1 := Lib.hid K1
    have hB2 : B ≤ w2.heap.size := Nat.le_trans hB hT0.size
    clear N1 K1 hT0 d0' d1' e1' Hw
    go_wp2
    go_loopg [18] C.length (fun gg v18 wr => ∃ k, gg = C.length - k ∧ v18 = .int .i64 k ∧ k ≤ C.length ∧ Hid (∃ L', Turns w B (oRes ob L o) (oRes ob L' (layK o C k)) wr ∧ Lok L' (layK o C k) ∧ L'.da = L.da ∧ L'.db = L.db) ∧ B ≤ wr.heap.size)
    case atStart => exact ⟨0, rfl, rfl, Nat.zero_le _, ⟨L, HN1.out, HK1.out, rfl, rfl⟩, hB2⟩
    case round =>
      obtain ⟨k, hgg, rfl, hk, HR, hBr⟩ := hrel
      have Hgg := Lib.hid hgg
      clear hgg HN1 HK1 hB2 hB
      obtain ⟨L', T, K, hda⟩ := HR.out
      have HDA := Lib.hid hda
      clear hda
      have HT := Lib.hid T
      have HK := Lib.hid K
      clear T K
      by_cases hlt : k < C.length
      · have hki : (k : Int) < (C.length : Int) := lt_cast hlt
        have hkd : decide (k < C.length) = true := by simpa using hlt
        have E4 : Hid (wrap64 ((k : Int) + 1) = ((k + 1 : Nat) : Int)) := wrap_succ hk (Nat.le_trans hCs (by decide))
        have hI : OIs wr B ob L' (layK o C k) := ⟨HT.out.held, HK.out⟩
        have HI := Lib.hid hI
        have hhk : (layK o C k).here ≤ 10000 := here_le HHm.out hk hCs
        have hlk : (layK o C k).laid.length ≤ 1000005000 := laid_le o k C.length hl hk hCs
        have HS := Lib.hid (layK_succ o C k)
        obtain ⟨VA, vc, hlv, c17⟩ := laid_cell hI
        have c11 := here_cell hI
        have Hlv := Lib.hid hlv
        have hRow := hI.laid
        rw [hlv] at hRow
        clear hI hlv
        generalize hka : layK o C k = a at *
        have Hka := Lib.hid hka
        clear hka
        have E5 : Hid (wrap64 ((a.here : Int) + 1) = ((a.here + 1 : Nat) : Int)) := wrap_succ hhk (by decide)
        have Hvn : Hid (a.laid.length = a.laid.length) := rfl
        have hrd : Reads (wr.drew.alloc (.cells #[.int .i64 (a.here : Int)] 3)) (wr.drew.alloc (.cells #[.int .i64 (a.here : Int)] 3)).heap.size 1 (some ⟨wr.drew.heap.size, 0, none⟩) 1 (ints [(a.here : Int)]) := by
          refine ⟨rfl, fun _ => ⟨_, rfl, by simp, fun j u hj => ?_⟩⟩
          rw [Go.WideShapes.add_plain, World.cell?, heap_alloc_new]
          simpa [ints] using hj
        have HRD := Lib.hid hrd
        have HB1 : Hid (B ≤ (wr.drew.alloc (.cells #[.int .i64 (a.here : Int)] 3)).heap.size) := Nat.le_trans hBr (by simp)
        have HRA := Lib.hid (hRow.touch ((alloc_touch wr (.cells #[.int .i64 (a.here : Int)] 3) (fun _ => False))) (fun _ _ => id))
        have HBl : Hid (Below wr.heap.size wr (wr.drew.alloc (.cells #[.int .i64 (a.here : Int)] 3))) := (below_of_draw (Below.refl wr.heap.size wr) 1).alloc (Nat.le_refl _) _
        have HSA : Hid ((fun W : World => W.cell? ⟨ob, 17, none⟩ = some (.slice VA a.laid.length vc) ∧ W.cell? ⟨ob, 11, none⟩ = some (.int .i64 (a.here : Int))) (wr.drew.alloc (.cells #[.int .i64 (a.here : Int)] 3))) := by
          have hb := (HI.out.drewN 1).blk.alloc (.cells #[.int .i64 (a.here : Int)] 3)
          refine ⟨?_, ?_⟩
          · rw [← Hlv.out]; exact hb.cell 17
          · exact hb.cell 11
        obtain ⟨i0, hi0, hz0, hz1, hz2⟩ := info_parts Mc.infoInt
        clear hrd hRow
        go_upto_region 3 with fail
        have HS0 : (fun W : World => W.cell? ⟨ob, 17, none⟩ = some (.slice VA a.laid.length vc) ∧ W.cell? ⟨ob, 11, none⟩ = some (.int .i64 (a.here : Int))) wr.drew := ⟨c17, c11⟩
        clear c17 c11
        refine Ph.wp_region_U 11 (fun W : World => W.cell? ⟨ob, 17, none⟩ = some (.slice VA a.laid.length vc) ∧ W.cell? ⟨ob, 11, none⟩ = some (.int .i64 (a.here : Int))) (by kernel_rfl) ?_
        change Ph.wpU _ _ _ _ _ _ 14 #[false, false, false, false, false, false, false, false, false, false, false, false, false, false] _ _
        refine Ph.U_take (i := 0) (oi := { dst := some 20, op := .move (.tmp 0), type := 27, pos := "outer.go:250", after := #[], guard := none }) (v := .pointer (some ⟨ob, 0, none⟩)) rfl (by kernel_rfl) (by kernel_rfl) (by kernel_rfl) (by kernel_rfl) (fun _ _ _ h => h) (Or.inl ⟨by rfl, ?_⟩) (by assumption) ?_
        · intro W hSw; (try dsimp only at hSw); go_simp
        simp only [Act.put, List.setIfInBounds_toArray, List.set_cons_zero, List.set_cons_succ]
        refine Ph.U_take (i := 1) (oi := { dst := some 21, op := .move (.tmp 0), type := 27, pos := "outer.go:250", after := #[], guard := none }) (v := .pointer (some ⟨ob, 0, none⟩)) rfl (by kernel_rfl) (by kernel_rfl) (by kernel_rfl) (by kernel_rfl) (fun _ _ _ h => h) (Or.inl ⟨by rfl, ?_⟩) (by assumption) ?_
        · intro W hSw; (try dsimp only at hSw); go_simp
        simp only [Act.put, List.setIfInBounds_toArray, List.set_cons_zero, List.set_cons_succ]
        refine Ph.U_take (i := 2) (oi := { dst := some 22, op := .nilCheck (.tmp 21), type := 0, pos := "outer.go:250", after := #[{ on := 1, ground := .data }], guard := none }) (v := .pointer (some ⟨ob, 0, none⟩)) rfl (by kernel_rfl) (by kernel_rfl) (by kernel_rfl) (by kernel_rfl) (fun _ _ _ h => h) (Or.inl ⟨by rfl, ?_⟩) (by assumption) ?_
        · intro W hSw; (try dsimp only at hSw); go_simp
        simp only [Act.put, List.setIfInBounds_toArray, List.set_cons_zero, List.set_cons_succ]
        refine Ph.U_take (i := 3) (oi := { dst := some 23, op := .fieldAddr 47 (.tmp 22) 8, type := 0, pos := "outer.go:250", after := #[{ on := 2, ground := .data }], guard := none }) (v := .pointer (some ⟨ob, 17, none⟩)) rfl (by kernel_rfl) (by kernel_rfl) (by kernel_rfl) (by kernel_rfl) (fun _ _ _ h => h) (Or.inl ⟨by rfl, ?_⟩) (by assumption) ?_
        · intro W hSw; (try dsimp only at hSw); go_simp
        simp only [Act.put, List.setIfInBounds_toArray, List.set_cons_zero, List.set_cons_succ]
        refine Ph.U_take (i := 4) (oi := { dst := some 24, op := .load 31 (.tmp 23), type := 31, pos := "outer.go:250", after := #[{ on := 3, ground := .data }], guard := none }) (v := .slice VA a.laid.length vc) rfl (by kernel_rfl) (by kernel_rfl) (by kernel_rfl) (by kernel_rfl) (fun _ _ _ h => h) (Or.inl ⟨by rfl, ?_⟩) (by assumption) ?_
        · intro W hSw; (try dsimp only at hSw); go_simp
        simp only [Act.put, List.setIfInBounds_toArray, List.set_cons_zero, List.set_cons_succ]
        refine Ph.U_take (i := 5) (oi := { dst := some 25, op := .move (.tmp 0), type := 27, pos := "outer.go:250", after := #[], guard := none }) (v := .pointer (some ⟨ob, 0, none⟩)) rfl (by kernel_rfl) (by kernel_rfl) (by kernel_rfl) (by kernel_rfl) (fun _ _ _ h => h) (Or.inl ⟨by rfl, ?_⟩) (by assumption) ?_
        · intro W hSw; (try dsimp only at hSw); go_simp
        simp only [Act.put, List.setIfInBounds_toArray, List.set_cons_zero, List.set_cons_succ]
        refine Ph.U_take (i := 6) (oi := { dst := some 26, op := .nilCheck (.tmp 25), type := 0, pos := "outer.go:250", after := #[{ on := 5, ground := .data }], guard := none }) (v := .pointer (some ⟨ob, 0, none⟩)) rfl (by kernel_rfl) (by kernel_rfl) (by kernel_rfl) (by kernel_rfl) (fun _ _ _ h => h) (Or.inl ⟨by rfl, ?_⟩) (by assumption) ?_
        · intro W hSw; (try dsimp only at hSw); go_simp
        simp only [Act.put, List.setIfInBounds_toArray, List.set_cons_zero, List.set_cons_succ]
        refine Ph.U_take (i := 7) (oi := { dst := some 27, op := .fieldAddr 47 (.tmp 26) 2, type := 0, pos := "outer.go:250", after := #[{ on := 6, ground := .data }], guard := none }) (v := .pointer (some ⟨ob, 11, none⟩)) rfl (by kernel_rfl) (by kernel_rfl) (by kernel_rfl) (by kernel_rfl) (fun _ _ _ h => h) (Or.inl ⟨by rfl, ?_⟩) (by assumption) ?_
        · intro W hSw; (try dsimp only at hSw); go_simp
        simp only [Act.put, List.setIfInBounds_toArray, List.set_cons_zero, List.set_cons_succ]
        refine Ph.U_take (i := 8) (oi := { dst := some 28, op := .load 3 (.tmp 27), type := 3, pos := "outer.go:250", after := #[{ on := 7, ground := .data }], guard := none }) (v := .int .i64 (a.here : Int)) rfl (by kernel_rfl) (by kernel_rfl) (by kernel_rfl) (by kernel_rfl) (fun _ _ _ h => h) (Or.inl ⟨by rfl, ?_⟩) (by assumption) ?_
        · intro W hSw; (try dsimp only at hSw); go_simp
        simp only [Act.put, List.setIfInBounds_toArray, List.set_cons_zero, List.set_cons_succ]
        refine Ph.U_ready (rs := [9]) (by kernel_rfl) (by simp) ?_
        refine Ph.AllReadyU.cons rfl (fun K hK => ?_) Ph.AllReadyU.nil
        go_simp
        refine hK.out _ _ (fun _ => HSA.out) ?_
        clear hK K
        simp only [Act.put, List.setIfInBounds_toArray, List.set_cons_zero, List.set_cons_succ]
        refine Ph.U_ready (rs := [10]) (by kernel_rfl) (by simp) ?_
        refine Ph.AllReadyU.cons rfl (fun K hK => ?_) Ph.AllReadyU.nil
        rw [if_pos (by kernel_rfl)]
        refine wp_append_row _ _ _ 31 rfl B 3 i0 (.int .i64 0) 1 8 Tryz.underlying31 hi0 hz0 hz1 hz2 rfl (by decide) (.slice VA a.laid.length vc) a.laid.length (ints a.laid) rfl HRA.out _ (some ⟨wr.drew.heap.size, 0, none⟩) 1 1 (ints [(a.here : Int)]) rfl HRD.out (ints_one [(a.here : Int)]) (fits1 hlk).1 (fits1 hlk).2 HB1.out ?_
        intro v' w3 hrow hg hv
        have hrb : roomBlock (.slice VA a.laid.length vc) = roomBlock L'.lv := by rw [Hlv.out]
        rw [hrb] at hg hv
        have M3 := Lib.hid (laid_turns HI.out HBl.out rfl hrow hg hv)
        have HS3 : (fun W : World => W.cell? ⟨ob, 17, none⟩ = some (.slice VA a.laid.length vc) ∧ W.cell? ⟨ob, 11, none⟩ = some (.int .i64 (a.here : Int))) w3 := ⟨by rw [← Hlv.out]; exact M3.out.2.2.cell 17, M3.out.2.2.cell 11⟩
        have HSS := Lib.hid HS3
        obtain ⟨XA, xc, rfl⟩ := hrow.slice
        clear hrow hg hv hrb HS3
        refine hK.out _ _ (fun _ => HSS.out) ?_
        clear hK K
        simp only [Act.put, List.setIfInBounds_toArray, List.set_cons_zero, List.set_cons_succ]
        refine Ph.U_pure (i := 11) (oi := { dst := some 31, op := .nilCheck (.tmp 20), type := 0, pos := "outer.go:250", after := #[{ on := 0, ground := .data }, { on := 0, ground := .phase }, { on := 1, ground := .phase }, { on := 2, ground := .phase }, { on := 3, ground := .phase }, { on := 4, ground := .phase }, { on := 5, ground := .phase }, { on := 6, ground := .phase }, { on := 7, ground := .phase }, { on := 8, ground := .phase }, { on := 9, ground := .phase }, { on := 10, ground := .phase }], guard := none }) (v := .pointer (some ⟨ob, 0, none⟩)) rfl (by kernel_rfl) (by kernel_rfl) (by kernel_rfl) (by decide) (fun _ _ _ h => h) (Or.inl ⟨by rfl, ?_⟩) ?_
        · intro W hSw; (try dsimp only at hSw); go_simp
        simp only [Act.put, List.setIfInBounds_toArray, List.set_cons_zero, List.set_cons_succ]
        refine Ph.U_pure (i := 12) (oi := { dst := some 32, op := .fieldAddr 47 (.tmp 31) 8, type := 0, pos := "outer.go:250", after := #[{ on := 11, ground := .data }, { on := 0, ground := .phase }, { on := 1, ground := .phase }, { on := 2, ground := .phase }, { on := 3, ground := .phase }, { on := 4, ground := .phase }, { on := 5, ground := .phase }, { on := 6, ground := .phase }, { on := 7, ground := .phase }, { on := 8, ground := .phase }, { on := 9, ground := .phase }, { on := 10, ground := .phase }], guard := none }) (v := .pointer (some ⟨ob, 17, none⟩)) rfl (by kernel_rfl) (by kernel_rfl) (by kernel_rfl) (by decide) (fun _ _ _ h => h) (Or.inl ⟨by rfl, ?_⟩) ?_
        · intro W hSw; (try dsimp only at hSw); go_simp
        simp only [Act.put, List.setIfInBounds_toArray, List.set_cons_zero, List.set_cons_succ]
        obtain ⟨g0, g1⟩ := HSS.out
        have z0 := M3.out.2.2.frozen 17
        refine Ph.U_ready (rs := [13]) (by kernel_rfl) (by simp) ?_
        refine Ph.AllReadyU.cons rfl (fun K hK => ?_) Ph.AllReadyU.nil
        go_simp
        refine hK.out _ _ (fun h => absurd h (by decide)) ?_
        clear hK K
        simp only [Act.put, List.setIfInBounds_toArray, List.set_cons_zero, List.set_cons_succ]
        refine Ph.U_done (by kernel_rfl) ?_ _
        go_simp
        have I3 := Lib.hid (HI.out.next M3.out.1 M3.out.2.1)
        have TT := Lib.hid (HT.out.trans M3.out.1)
        have S4 := Lib.hid (Nat.le_trans hBr M3.out.1.size)
        clear g0 g1 z0 HSS M3 HSA HRA HRD HBl HB1 HI HT hi0 hz0 hz1 hz2
        generalize w3.setCell ⟨ob, 17, none⟩ (.slice XA (a.laid.length + 1) xc) = w4 at *
        have c11 := here_cell I3.out
        have f11 := I3.out.frozen 11
        have N4 := Lib.hid (o_set I3.out 11 (.int .i64 ((a.here + 1 : Nat) : Int)) (L' := { L' with lv := .slice XA (a.laid.length + 1) xc }) (o' := { a with laid := a.laid ++ [(a.here : Int)], here := a.here + 1 }) rfl rfl)
        have Hlt := Lib.hid hlt
        clear hlk hhk hl hm hmx hcap hsz htk hcur hpos hroom hh0 hh1 hh2 hcapne hbg hne c4 d0 d1 f1 HS0 hki hkd hlt hk hCs hBr
        go_wp2_with fail
        rw [E4.out, E5.out]
        go_roundg (C.length - (k + 1))
        case rel =>
          refine ⟨k + 1, rfl, rfl, Hlt.out, ?_, Nat.le_trans S4.out N4.out.size⟩
          rw [HS.out]
          exact ⟨_, TT.out.trans N4.out, ⟨I3.out.lok.line, I3.out.lok.draft, I3.out.lok.pos⟩, HDA.out⟩
        case measure => exact sub_lt Hgg.out Hlt.out
      · obtain rfl : k = C.length := le_of_not hk hlt
        go_wp2_with fail
        go_end0
        exact ⟨rfl, L', HT.out, HK.out, HDA.out⟩
end Go.Proofs.YtompdfpjmdnhoabGreatDoor.Ou
namespace Go.Proofs.YtompdfpjmdnhoabGreatDoor.Ou
open Go.RowKit Go.Proofs.YtompdfpjmdnhoabGreatDoor.Rs Go.Proofs.YtompdfpjmdnhoabGreatDoor.Src
theorem side_blk {w w1 w2 : World} {B b0 : Nat} {R R' : List Res} {T : TypeId} {cs : Array Value} (H : Held w B R) (N : Turns w1 B R R' w2) (h1 : w.heap.size ≤ b0) (K : Blk w1 b0 T cs) : Blk w2 b0 T cs :=
  (N.touch.block b0 K.lt (fun hk => by have := (H.low hk).2; omega)).trans K
theorem right_small {n : ByteArray} (h : rightN n = true) : n.size ≤ 100000 := by
  unfold rightN at h
  simp only [Bool.and_eq_true, decide_eq_true_eq] at h
  omega
theorem Wo.names {o : OS} (W : Wo o) : ∀ x ∈ o.words, x.name.size ≤ 100000 := fun x hx => right_small (W.words x hx).nm
theorem wdC_one (x : Wd) : (wdC x).all (·.oneCell') = true := by simp [wdC, Value.oneCell']
theorem wdC_info (x : Wd) : (Tryz.prog.info? 62).map (·.size) = some (wdC x).size := by
  have : (Tryz.prog.info? 62).map (·.size) = some 4 := by kernel_rfl
  exact this
def FindPost (w : World) (B ob : Nat) (L : Lo) (o : OS) (e : Ending) (w' : World) : Prop := e = .returned (.tuple #[.agg (wdC (findO o).1), .int .i64 (findO o).2.1]) ∧ Nxd w B ob L o (findO o).2.2 w'
set_option maxHeartbeats 4000000 in
set_option maxRecDepth 100000 in
theorem findO_any (B ob : Nat) (L : Lo) (o : OS) (w : World) (H : OIs w B ob L o) (W : Wo o) :
    Calls Tryz.prog 80 #[.pointer (some ⟨ob, 0, none⟩)] w (FindPost w B ob L o) := by
  have HN := Lib.hid (name_any B ob L o (w.alloc (.cells #[.string ⟨#[]⟩, .int .i64 0, .int .i64 0, .bool false] 62)) (H.alloc _) W)
  have k0 := Lib.hid ((Below.refl w.heap.size w).alloc (Nat.le_refl _) (.cells #[.string ⟨#[]⟩, .int .i64 0, .int .i64 0, .bool false] 62))
  have B0 := Lib.hid (Blk.new w 62 #[.string ⟨#[]⟩, .int .i64 0, .int .i64 0, .bool false])
  have hz : w.heap.size < (w.alloc (.cells #[.string ⟨#[]⟩, .int .i64 0, .int .i64 0, .bool false] 62)).heap.size := by simp
  have HZ := Lib.hid hz
  clear hz
  have HW := Lib.hid (name_kept o W)
  have HE : Hid (findO o = if (name o).2.1 ≠ 0 then (wd0, (name o).2.1, (name o).2.2) else match find (name o).2.2.words (name o).1 with | some x => (x, 0, (name o).2.2) | none => (wd0, -13, (name o).2.2)) := rfl
  have HH := Lib.hid H
  clear H W
  unfold FindPost
  generalize name o = r at *
  obtain ⟨n, c, o2⟩ := r
  go_enter Tryz.func80, Tryz.ntmps80
  go_wp2_with fail
  refine HN.out.mono ?_
  rintro e w2 ⟨rfl, L2, N2, K2, D2'⟩
  have HDA := Lib.hid D2'
  clear D2'
  have HN2 := Lib.hid N2
  have HK2 := Lib.hid K2
  have D2 := Lib.hid (side_blk HH.out.held N2 (Nat.le_refl _) B0.out)
  clear N2 K2 HN
  generalize w.alloc (.cells #[.string ⟨#[]⟩, .int .i64 0, .int .i64 0, .bool false] 62) = w1 at *
  by_cases hc : c = 0
  · subst hc
    have HE := Lib.hid (HE.out.trans (if_neg (by simp)))
    have Wk := HW.out.1.kept.wo
    have hr : rightN n = true := HW.out.2 rfl
    have H2 : OIs w2 B ob L2 o2 := ⟨HN2.out.held, HK2.out⟩
    have c10 := words_cell H2
    have HF := Lib.hid (find_any L2.wb B L2.wv o2.words n w2 H2.words (right_small hr) (by have := Wk.wlen; omega) Wk.names)
    clear hr H2 Wk HW
    generalize hf : find o2.words n = f at *
    have Hf := Lib.hid hf
    clear hf
    cases f with
    | none =>
      have HG : Hid (Calls Tryz.prog 39 #[.pointer (some ⟨L2.wb, 0, none⟩), .string n] w2 fun e w' => e = .returned (.tuple #[.agg #[.string ⟨#[]⟩, .int .i64 0, .int .i64 0, .bool false], .bool false]) ∧ Below w2.heap.size w2 w') := HF.out
      go_wp2_with fail
      refine HG.out.mono ?_
      rintro e w3 ⟨rfl, k3⟩
      have N3 := Lib.hid (HN2.out.trans (Turns.of_below HN2.out.held k3 (Nat.le_refl _)))
      have D3 := Lib.hid (D2.out.below k3 D2.out.lt)
      clear k3 HF HG HN2 D2
      have HD := Lib.hid (D3.out.alloc (.cells #[.string ⟨#[]⟩, .int .i64 0, .int .i64 0, .bool false] 62))
      have HI : Hid ((Tryz.prog.info? 62).map (·.size) = some (#[.string ⟨#[]⟩, .int .i64 0, .int .i64 0, .bool false] : Array Value).size) := wdC_info wd0
      have H1 : Hid ((#[.string ⟨#[]⟩, .int .i64 0, .int .i64 0, .bool false] : Array Value).all (·.oneCell') = true) := wdC_one wd0
      have N4 := Lib.hid (N3.out.trans (Turns.lone N3.out.held (.cells #[.string ⟨#[]⟩, .int .i64 0, .int .i64 0, .bool false] 62)))
      go_wp2_with (refine wpList_store_row rfl _ _ _ rfl w.heap.size #[.string ⟨#[]⟩, .int .i64 0, .int .i64 0, .bool false] rfl rfl _ _ HD.out HI.out rfl H1.out ?_)
      refine bodyPost_ret (Mc.results_row_tmp rfl _ _ w.heap.size _ _ (0, 0) _ rfl (setRow_heap _ _ _ _ _ _ HD.out) Tryz.underlying62 rfl HI.out) rfl ?_
      rw [HE.out]
      exact ⟨rfl, L2, turns_side HH.out.held k0.out N4.out (Nat.le_refl _) HZ.out (Wv.touch_setRow _ _ _), HK2.out, HDA.out⟩
    | some x =>
      have HG : Hid (Calls Tryz.prog 39 #[.pointer (some ⟨L2.wb, 0, none⟩), .string n] w2 fun e w' => e = .returned (.tuple #[.agg #[.string x.name, .int .i64 x.xt, .int .i64 x.op, .bool x.imm], .bool true]) ∧ Below w2.heap.size w2 w') := HF.out
      go_wp2_with fail
      refine HG.out.mono ?_
      rintro e w3 ⟨rfl, k3⟩
      have N3 := Lib.hid (HN2.out.trans (Turns.of_below HN2.out.held k3 (Nat.le_refl _)))
      have D3 := Lib.hid (D2.out.below k3 D2.out.lt)
      clear k3 HF HG HN2 D2
      have HD := Lib.hid (D3.out.alloc (.cells (wdC x) 62))
      have HB := Lib.hid (Blk.new w3 62 (wdC x))
      have HI := Lib.hid (wdC_info x)
      have H1 := Lib.hid (wdC_one x)
      have N4 := Lib.hid (N3.out.trans (Turns.lone N3.out.held (.cells (wdC x) 62)))
      unfold wdC at *
      have q0 := HB.out.cell 0; have q1 := HB.out.cell 1; have q2 := HB.out.cell 2; have q3 := HB.out.cell 3
      simp only [List.getElem?_toArray, List.getElem?_cons_zero, List.getElem?_cons_succ] at q0 q1 q2 q3
      go_wp2_with (refine wpList_store_row rfl _ _ _ rfl w.heap.size #[.string x.name, .int .i64 x.xt, .int .i64 x.op, .bool x.imm] rfl rfl _ _ HD.out HI.out rfl H1.out ?_)
      refine bodyPost_ret (Mc.results_row_tmp rfl _ _ w.heap.size _ _ (0, 0) _ rfl (setRow_heap _ _ _ _ _ _ HD.out) Tryz.underlying62 rfl HI.out) rfl ?_
      rw [HE.out]
      exact ⟨rfl, L2, turns_side HH.out.held k0.out N4.out (Nat.le_refl _) HZ.out (Wv.touch_setRow _ _ _), HK2.out, HDA.out⟩
  · have HE := Lib.hid (HE.out.trans (if_pos hc))
    have HI := Lib.hid (wdC_info wd0)
    have H1 := Lib.hid (wdC_one wd0)
    have hcd : decide (c = 0) = false := by simpa using hc
    go_wp2_with (refine wpList_store_row rfl _ _ _ rfl w.heap.size #[.string ⟨#[]⟩, .int .i64 0, .int .i64 0, .bool false] rfl rfl _ _ D2.out HI.out rfl H1.out ?_)
    refine bodyPost_ret (Mc.results_row_tmp rfl _ _ w.heap.size _ _ (0, 0) _ rfl (setRow_heap _ _ _ _ _ _ D2.out) Tryz.underlying62 rfl HI.out) rfl ?_
    rw [HE.out]
    exact ⟨rfl, L2, turns_side HH.out.held k0.out HN2.out (Nat.le_refl _) HZ.out (Wv.touch_setRow _ _ _), HK2.out, HDA.out⟩
end Go.Proofs.YtompdfpjmdnhoabGreatDoor.Ou
