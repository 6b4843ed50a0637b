/-
  hollowaybook, what its kinds of lists share: rows of rows, appends that leave shorter rows of the same block alone.
-/
import Derived.Test.YtoaidcjjjoafjaaGreatDoorBase
namespace Go.Proofs.YtoaidcjjjoafjaaGreatDoor.Bk
open Go.RowKit

section
variable {P : Program} (w : World)
/-- append: each row that was there stays, if it is not a longer one of the same block. -/
theorem append_keeps (base : Nat) (t ty e : TypeId) (i : TypeInfo) (z : Value) (size bytes : Nat) (ht : P.underlying t = some (.slice e)) (hi : P.info? e = some i) (hz : i.zero = some z)
    (hsize : i.size = size) (hby : i.bytes = bytes) (hzs : z.cells.size = size) (hsz : 0 < size)
    (v : Value) (n : Nat) (xs : List Value) (hown : w.ownsRow base e size v n xs)
    (a : Addr) (m c : Nat) (news : List Value) (hl : news.length = m * size) (hnews : ∀ j u, news[j]? = some u → w.cell? (a.add j) = some u) (h1 : ∀ u ∈ news, u.oneCell' = true)
    (h63 : n + m ≤ maxLen) (hbytes : (n + m) * bytes ≤ 140737488355328) (hbase : base ≤ w.heap.size) :
    ∃ v' w', (Builtin.append_ #[t, t] ty #[v, .slice (some a) m c]).run P w = .ok v' w' ∧ w'.ownsRow base e size v' (n + m) (xs ++ news) ∧
      (∀ B2 u k ys, w.ownsRow B2 e size u k ys → (∀ g, u.ownBlock = some g → v.ownBlock = some g → k ≤ n) → w'.ownsRow B2 e size u k ys) ∧ w.grownBy w' v.ownBlock ∧
      (v'.ownBlock = v.ownBlock ∨ v'.ownBlock = some w.heap.size) := by
  obtain ⟨v', w', hrun, h2, h3, _, h5⟩ := run_append_own_at (P := P) w base t ty e i z size bytes ht hi hz hsize hby hzs hsz v n xs hown a m c news hl hnews h1 h63 hbytes hbase
  refine ⟨v', w', hrun, h2, fun B2 u k ys hu hk => ?_, h3, h5⟩
  by_cases hsame : ∃ g, u.ownBlock = some g ∧ v.ownBlock = some g
  · obtain ⟨g, hug, hvg⟩ := hsame
    have hkn0 := hk g hug hvg
    clear hk
    rcases hown.2 with ⟨rfl, rfl⟩ | ⟨g', cap, cur, rfl, hbg, hg, hnc, hcm, hcs, htake⟩
    · simp [Value.ownBlock] at hvg
    · obtain rfl : g' = g := by simpa [Value.ownBlock] using hvg
      rcases hu.2 with ⟨rfl, rfl⟩ | ⟨g2, cap2, cur2, rfl, hbg2, hg2, hnc2, hcm2, hcs2, htake2⟩
      · simp [Value.ownBlock] at hug
      · obtain rfl : g2 = g' := by simpa [Value.ownBlock] using hug
        rw [hg] at hg2
        obtain rfl : cur = cur2 := by injection hg2 with hg2; injection hg2
        subst hsize
        by_cases hroom : n + m ≤ cap
        · have hfit : n * i.size + news.length ≤ cur.size := by rw [hl, hcs, ← Nat.add_mul]; exact Nat.mul_le_mul_right _ hroom
          have hr := run_append_room (P := P) w t ty e i ht hi g2 n cap cur hg a m c news hl hnews h1 hroom hfit
          rw [hr] at hrun
          injection hrun with _ hw
          subst hw
          refine ⟨hu.1, .inr ⟨g2, cap2, _, rfl, hbg2, setRow_heap w g2 cur _ e _ hg, hnc2, hcm2, ?_, ?_⟩⟩
          · simp only [List.size_toArray, List.length_append, List.length_take, List.length_drop, Array.length_toList]
            omega
          · have hlt : (cur.toList.take (n * i.size)).length = n * i.size := by rw [htake]; exact hown.1
            have hkn : k * i.size ≤ n * i.size := Nat.mul_le_mul_right _ hkn0
            rw [List.append_assoc, List.take_append_of_le_length (by omega), List.take_take, Nat.min_eq_left hkn]
            exact htake2
        · have holds : ∀ j u, xs[j]? = some u → w.cell? ((⟨g2, 0, none⟩ : Addr).add j) = some u := hown.cells (g := g2) rfl
          have hr := run_append_grow (P := P) w t ty e i z ht hi hz ⟨g2, 0, none⟩ n cap xs hown.1 holds a m c news hl hnews (by omega) (by simp only [maxLen] at h63; omega) (growslice_fits (by omega) (by rw [hby]; exact hbytes))
          rw [hr] at hrun
          injection hrun with _ hw
          subst hw
          refine ⟨hu.1, .inr ⟨g2, cap2, cur, rfl, hbg2, ?_, hnc2, hcm2, hcs2, htake2⟩⟩
          exact (heap_alloc_old w.drew _ g2 (Array.getElem?_eq_some_iff.1 hg).1).trans hg
  · refine World.ownsRow.kept hu h3 ?_
    cases h : u.ownBlock with
    | none => exact Or.inl rfl
    | some g => exact Or.inr (fun e => hsame ⟨g, h, e.symm⟩)

theorem wpList_append_keeps {ops : Array Oper} {rest : List Oper} {o : Oper} {a : Act} {Q : Exit → Act → World → Prop} (hgd : o.guard = none) (s x : Operand) (t : TypeId)
    (ho : o.op = .call { callee := .builtin .append, args := #[s, x], argTypes := #[t, t] })
    (base : Nat) (e : TypeId) (i : TypeInfo) (z : Value) (size bytes : Nat) (ht : P.underlying t = some (.slice e)) (hi : P.info? e = some i) (hz : i.zero = some z)
    (hsize : i.size = size) (hby : i.bytes = bytes) (hzs : z.cells.size = size) (hsz : 0 < size)
    (v : Value) (n : Nat) (xs : List Value) (hs : a.eval s = v) (hown : w.ownsRow base e size v n xs)
    (ad : Addr) (m c : Nat) (news : List Value) (hx : a.eval x = .slice (some ad) m c) (hl : news.length = m * size) (hnews : ∀ j u, news[j]? = some u → w.cell? (ad.add j) = some u) (h1 : ∀ u ∈ news, u.oneCell' = true)
    (h63 : n + m ≤ maxLen) (hbytes : (n + m) * bytes ≤ 140737488355328) (hbase : base ≤ w.heap.size)
    (h : ∀ v' w', w'.ownsRow base e size v' (n + m) (xs ++ news) → (∀ B2 u k ys, w.ownsRow B2 e size u k ys → (∀ g, u.ownBlock = some g → v.ownBlock = some g → k ≤ n) → w'.ownsRow B2 e size u k ys) → w.grownBy w' v.ownBlock → (v'.ownBlock = v.ownBlock ∨ v'.ownBlock = some w.heap.size) → wpList P ops Q rest (a.put o.dst v') w') :
    wpList P ops Q (o :: rest) a w := by
  refine wpList_plain hgd fun K hK => ?_
  obtain ⟨v', w', hr, h2, h3, h4, h5⟩ := append_keeps (P := P) w base t o.type e i z size bytes ht hi hz hsize hby hzs hsz v n xs hown ad m c news hl hnews h1 h63 hbytes hbase
  unfold Oper.wp execOp
  simp only [ho, resolve, invoke, builtin, Sem.run_bind, Sem.run_pure, Result.andThen_ok, List.map_toArray, List.map_cons, List.map_nil, hs, hx, hr]
  exact hK _ _ (h v' w' h2 h3 h4 h5)
end

/-- Two values share no block. -/
def Far (u v : Value) : Prop := ∀ k, u.ownBlock = some k → v.ownBlock ≠ some k
theorem Far.symm {u v : Value} (h : Far u v) : Far v u := fun k hv hu => h k hu hv

/-- A row of the call's own, of one-celled elements. -/
def Own (w : World) (B : Nat) (e : TypeId) (v : Value) (xs : List Value) : Prop := w.ownsRow B e 1 v xs.length xs

section
variable {w w' : World} {B : Nat} {e : TypeId} {u : Value} {xs : List Value}
theorem Own.grown (H : Own w B e u xs) {row : Option Nat} (hg : w.grownBy w' row) (hn : ∀ k, u.ownBlock = some k → row ≠ some k) : Own w' B e u xs := by
  refine World.ownsRow.kept H hg ?_
  cases h : u.ownBlock with
  | none => exact Or.inl rfl
  | some k => right; intro e; exact hn k h e.symm
theorem Own.touch {S : Nat → Prop} (H : Own w B e u xs) (T : Touch w w' S) (hn : ∀ k, u.ownBlock = some k → ¬ S k) : Own w' B e u xs := by
  obtain ⟨A, c, rfl⟩ := own_slice H
  exact own_touch H T (fun k hk => hn k (by rw [ownBlock_slice]; exact hk))
theorem Own.lt (H : Own w B e u xs) {k : Nat} (hk : u.ownBlock = some k) : B ≤ k ∧ k < w.heap.size := World.ownsRow.lt H k hk
theorem Own.mono {B2 : Nat} (H : Own w B e u xs) (h : B2 ≤ B) : Own w B2 e u xs :=
  ⟨H.1, H.2.imp id fun ⟨g, cap, cur, h1, hb, rest⟩ => ⟨g, cap, cur, h1, Nat.le_trans h hb, rest⟩⟩
theorem own_far {e1 e2 : TypeId} {n1 n2 s1 s2 B1 B2 : Nat} {u1 u2 : Value} {x1 x2 : List Value} (h1 : w.ownsRow B1 e1 s1 u1 n1 x1) (h2 : w.ownsRow B2 e2 s2 u2 n2 x2) (hne : e1 ≠ e2) : Far u1 u2 := by
  intro k hk hk'
  rcases h2.2 with ⟨rfl, _⟩ | ⟨g, cap, cur, rfl, _, hh, _⟩
  · simp [Value.ownBlock] at hk'
  · have : g = k := by simpa [Value.ownBlock] using hk'
    subst this
    exact own_blk_ne (t := e2) (cs := cur) h1 hh hne hk
theorem Own.reads (H : Own w B e u xs) : ∃ A c, u = .slice A xs.length c ∧ Reads w w.heap.size 1 A xs.length xs := by
  obtain ⟨A, c, rfl⟩ := own_slice H
  exact ⟨A, c, rfl, Reads.of_own H⟩
theorem Own.store (H : Own w B e u xs) {j : Nat} (hj : j < xs.length) (x : Value) :
    ∃ g c, u = .slice (some ⟨g, 0, none⟩) xs.length c ∧ (∃ old, w.cell? ⟨g, j, none⟩ = some old) ∧ w.frozen? ⟨g, j, none⟩ = false ∧
      Own (w.setCell ⟨g, j, none⟩ x) B e u (xs.set j x) ∧ w.grownBy (w.setCell ⟨g, j, none⟩ x) (some g) := by
  obtain ⟨g, c, rfl, h2, h3⟩ := own_cell H hj
  obtain ⟨h4, h5⟩ := World.ownsRow.stored H j x
  refine ⟨g, c, rfl, ⟨xs[j], by rw [h2]; simp [hj]⟩, h3, ?_, h5⟩
  unfold Own
  rw [List.length_set]
  exact h4
end

/-- Rows, by their places in a row of rows. -/
structure Rws (w : World) (B : Nat) (e s : TypeId) (v : Value) (n : Nat) (R : Nat → Value) (L : Nat → List Value) : Prop where
  out : w.ownsRow B s 1 v n ((List.range n).map R)
  inn : ∀ i, i < n → Own w B e (R i) (L i)
  far : ∀ i j, i < n → j < n → i ≠ j → Far (R i) (R j)

section
variable {w w' : World} {B n : Nat} {e s : TypeId} {v : Value} {R : Nat → Value} {L : Nat → List Value}
theorem Rws.touch (H : Rws w B e s v n R L) {S : Nat → Prop} (T : Touch w w' S) (h1 : ∀ k, v.ownBlock = some k → ¬ S k) (h2 : ∀ i, i < n → ∀ k, (R i).ownBlock = some k → ¬ S k) : Rws w' B e s v n R L := by
  obtain ⟨A, c, rfl⟩ := own_slice H.out
  exact ⟨own_touch H.out T (fun k hk => h1 k (by rw [ownBlock_slice]; exact hk)), fun i hi => (H.inn i hi).touch T (h2 i hi), H.far⟩
theorem Rws.below (H : Rws w B e s v n R L) (hb : Below w.heap.size w w') : Rws w' B e s v n R L :=
  H.touch (Touch.of_below hb (fun _ => False)) (fun _ _ h => h) (fun _ _ _ _ h => h)
theorem Rws.drewN (H : Rws w B e s v n R L) (m : Nat) : Rws (w.drewN m) B e s v n R L := ⟨H.out, H.inn, H.far⟩
theorem Rws.drew (H : Rws w B e s v n R L) : Rws w.drew B e s v n R L := ⟨H.out, H.inn, H.far⟩
theorem Rws.keepBy (H : Rws w B e s v n R L) {row : Option Nat} {N : Nat} (hkeep : ∀ B2 u k ys, w.ownsRow B2 e 1 u k ys → (∀ g, u.ownBlock = some g → row = some g → k ≤ N) → w'.ownsRow B2 e 1 u k ys) (hg : w.grownBy w' row)
    (hv : ∀ g, v.ownBlock = some g → row ≠ some g) (hk : ∀ i, i < n → ∀ g, (R i).ownBlock = some g → row = some g → (L i).length ≤ N) : Rws w' B e s v n R L := by
  refine ⟨?_, fun i hi => hkeep _ _ _ _ (H.inn i hi) (hk i hi), H.far⟩
  refine World.ownsRow.kept H.out hg ?_
  cases h : v.ownBlock with
  | none => exact Or.inl rfl
  | some k => right; intro e; exact hv k h e.symm
theorem Rws.cell (H : Rws w B e s v n R L) {i : Nat} (hi : i < n) : ∃ g c, v = .slice (some ⟨g, 0, none⟩) n c ∧ w.cell? ⟨g, i, none⟩ = some (R i) ∧ w.frozen? ⟨g, i, none⟩ = false := by
  obtain ⟨g, c, h1, h2, h3⟩ := own_cell H.out hi
  refine ⟨g, c, h1, ?_, h3⟩
  rw [h2]
  simp [hi]
theorem Rws.nil (w : World) (B : Nat) (e s : TypeId) (R : Nat → Value) (L : Nat → List Value) : Rws w B e s (.slice none 0 0) 0 R L :=
  ⟨World.ownsRow_nil _ _ _ _, fun i hi => absurd hi (Nat.not_lt_zero i), fun i _ hi => absurd hi (Nat.not_lt_zero i)⟩
/-- One more row, behind an append. -/
theorem Rws.snoc {v' u : Value} {xs : List Value} (H : Rws w B e s v n R L) (hes : e ≠ s) (hout : w'.ownsRow B s 1 v' (n + 1) ((List.range n).map R ++ [u])) (hg : w.grownBy w' v.ownBlock)
    (hu : Own w' B e u xs) (hf : ∀ i, i < n → Far (R i) u) : Rws w' B e s v' (n + 1) (fun i => if i = n then u else R i) (fun i => if i = n then xs else L i) := by
  refine ⟨?_, fun i hi => ?_, fun i j hi hj hij => ?_⟩
  · have : (List.range (n + 1)).map (fun i => if i = n then u else R i) = (List.range n).map R ++ [u] := by
      rw [List.range_succ, List.map_append]
      congr 1
      · apply List.map_congr_left
        intro a ha
        have := List.mem_range.1 ha
        simp [show a ≠ n by omega]
      · simp
    rw [this]
    exact hout
  · show Own w' B e (if i = n then u else R i) (if i = n then xs else L i)
    split
    · exact hu
    · exact (H.inn i (by omega)).grown hg (fun k hk e => (own_far (H.inn i (by omega)) H.out hes) k hk e)
  · show Far (if i = n then u else R i) (if j = n then u else R j)
    split <;> split
    · omega
    · exact (hf j (by omega)).symm
    · exact hf i (by omega)
    · exact H.far i j (by omega) (by omega) hij
/-- A cell of one of the rows is another one. -/
theorem Rws.store (H : Rws w B e s v n R L) (hes : e ≠ s) {i : Nat} (hi : i < n) {j : Nat} (hj : j < (L i).length) (x : Value) :
    ∃ g c, R i = .slice (some ⟨g, 0, none⟩) (L i).length c ∧ (∃ old, w.cell? ⟨g, j, none⟩ = some old) ∧ w.frozen? ⟨g, j, none⟩ = false ∧ w.grownBy (w.setCell ⟨g, j, none⟩ x) (some g) ∧ B ≤ g ∧ g < w.heap.size ∧
      Rws (w.setCell ⟨g, j, none⟩ x) B e s v n R (fun k => if k = i then (L i).set j x else L k) := by
  obtain ⟨g, c, h1, h2, h3, h4, h5⟩ := (H.inn i hi).store hj x
  have hblk : (R i).ownBlock = some g := by rw [h1]; rfl
  have hlt := (H.inn i hi).lt hblk
  refine ⟨g, c, h1, h2, h3, h5, hlt.1, hlt.2, ?_, fun k hk => ?_, H.far⟩
  · refine World.ownsRow.kept H.out h5 ?_
    cases h : v.ownBlock with
    | none => exact Or.inl rfl
    | some k => right; intro e; exact own_far (H.inn i hi) H.out hes g hblk (by rw [h, e])
  · show Own _ B e (R k) (if k = i then (L i).set j x else L k)
    by_cases hki : k = i
    · subst hki
      rw [if_pos rfl]
      exact h4
    · rw [if_neg hki]
      exact (H.inn k hk).grown h5 (fun q hq e => H.far i k hi hk (fun e => hki e.symm) g hblk (by rw [hq, ← e]))
end
end Go.Proofs.YtoaidcjjjoafjaaGreatDoor.Bk
