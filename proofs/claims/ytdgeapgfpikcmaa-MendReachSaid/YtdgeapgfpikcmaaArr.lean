/-
  Arrays in memory: blocks that hold n cells of one kind, by a function of the place.
-/
import Derived.Test.YtdgeapgfpikcmaaOwn
namespace Go.Proofs.YtdgeapgfpikcmaaV.PrintWords
open Go.RowKit

/-- the cells of an array of n -/
def arrC {α : Type} (enc : α → Value) (n : Nat) (P : Nat → α) : Array Value := ((List.range n).map fun j => enc (P j)).toArray
section
variable {α : Type} {enc : α → Value} {n : Nat} {P P' : Nat → α} {w w1 : World} {g T : Nat}
theorem arrC_size : (arrC enc n P).size = n := by simp [arrC]
theorem arrC_get (j : Nat) (hj : j < n) : (arrC enc n P)[j]? = some (enc (P j)) := by simp [arrC, hj]
theorem arrC_congr (h : ∀ j, j < n → P j = P' j) : arrC enc n P = arrC enc n P' := by
  unfold arrC
  congr 1
  apply List.map_congr_left
  intro j hj
  rw [h j (by simpa using hj)]
theorem arrC_set (j : Nat) (x : α) (_hj : j < n) : (arrC enc n P).setIfInBounds j (enc x) = arrC enc n (fun k => if k = j then x else P k) := by
  apply Array.ext_getElem?
  intro k
  rw [Array.getElem?_setIfInBounds]
  by_cases hk : k < n
  · rw [arrC_get k hk, arrC_get k hk]
    by_cases e : j = k
    · subst e; simp [arrC_size, hk]
    · have e' : ¬ k = j := fun h => e h.symm
      rw [if_neg e, if_neg e']
  · have h1 : (arrC enc n P)[k]? = none := Array.getElem?_eq_none (by rw [arrC_size]; omega)
    have h2 : (arrC enc n (fun k => if k = j then x else P k))[k]? = none := Array.getElem?_eq_none (by rw [arrC_size]; omega)
    rw [h1, h2]
    split
    · rename_i e; subst e; simp [arrC_size, hk]
    · rfl
/-- block g holds this array -/
def Arr (enc : α → Value) (n : Nat) (T : Nat) (w : World) (g : Nat) (P : Nat → α) : Prop := RowIn w g (arrC enc n P) T
theorem Arr.cell (h : Arr enc n T w g P) (j : Nat) (hj : j < n) : w.cell? ⟨g, j, none⟩ = some (enc (P j)) := by
  rw [RowIn.cell h, arrC_get j hj]
theorem Arr.free (h : Arr enc n T w g P) (j : Nat) (hj : j < n) : w.frozen? ⟨g, j, none⟩ = false := RowIn.free h j (by rw [arrC_size]; exact hj)
theorem Arr.lt (h : Arr enc n T w g P) : g < w.heap.size := RowIn.lt h
theorem Arr.move (h : Arr enc n T w g P) (hm : w1.heap[g]? = w.heap[g]?) : Arr enc n T w1 g P := RowIn.move h hm
theorem Arr.drewN (h : Arr enc n T w g P) (m : Nat) : Arr enc n T (w.drewN m) g P := h
theorem Arr.below (h : Arr enc n T w g P) (hb : Below w.heap.size w w1) : Arr enc n T w1 g P := h.move (hb.block g h.lt)
theorem Arr.grown (h : Arr enc n T w g P) {row : Option Nat} (hg : w.grownBy w1 row) (hne : some g ≠ row) : Arr enc n T w1 g P := h.move (hg.block g h.lt hne)
theorem Arr.congr (h : Arr enc n T w g P) (he : ∀ j, j < n → P j = P' j) : Arr enc n T w g P' := by unfold Arr at *; rw [← arrC_congr he]; exact h
theorem Arr.set (h : Arr enc n T w g P) (j : Nat) (hj : j < n) (x : α) : Arr enc n T (w.setCell ⟨g, j, none⟩ (enc x)) g (fun k => if k = j then x else P k) := by
  unfold Arr
  rw [← arrC_set j x hj]
  exact RowIn.set h j _
theorem grown_set (w : World) (g j : Nat) (u : Value) : w.grownBy (w.setCell ⟨g, j, none⟩ u) (some g) :=
  ⟨rfl, rfl, rfl, by simp, fun k _ hk => heap_setCell_other w ⟨g, j, none⟩ k u (fun e => hk (by simp [e]))⟩
end
section
variable {Pr : Program} {ops : Array Oper} {rest : List Oper} {o : Oper} {a : Act} {Q : Exit → Act → World → Prop}
variable {α : Type} {enc : α → Value} {n : Nat} {P P' : Nat → α} {W : World} {g T : Nat}
/-- var x [n]T -/
theorem arr_alloc (hgd : o.guard = none) (zs : Array Value)
    (hrun : (execOp a.eval o).run Pr W = .ok (.value (.pointer (some ⟨W.heap.size, 0, none⟩))) (W.alloc (.cells zs T))) (hz : zs = arrC enc n P)
    (h : ∀ g1, g1 = W.heap.size → ∀ w1, Arr enc n T w1 g1 P → Below W.heap.size W w1 → g1 < w1.heap.size → wpList Pr ops Q rest (a.put o.dst (.pointer (some ⟨g1, 0, none⟩))) w1) : wpList Pr ops Q (o :: rest) a W := by
  refine Kd.event_run hgd hrun (h _ rfl _ ?_ (below_alloc (Below.refl _ _) _) (by simp))
  unfold Arr
  rw [← hz]
  exact RowIn.of (heap_alloc_new W _)
/-- the whole array is read -/
theorem arr_load (hgd : o.guard = none) (x : Operand) (ho : o.op = .load T x) (hx : a.eval x = .pointer (some ⟨g, 0, none⟩)) {e : Nat} (hu : Pr.underlying T = some (.array n e)) (hi : (Pr.info? T).map (·.size) = some n)
    (hg : Arr enc n T W g P) (h : wpList Pr ops Q rest (a.put o.dst (.agg (arrC enc n P))) W) : wpList Pr ops Q (o :: rest) a W := by
  obtain ⟨fr, h1, _⟩ := hg
  exact wpList_load_row hgd T x ho g hx T _ fr _ h1 hu rfl (by rw [arrC_size]; exact hi) h
/-- the whole array is written -/
theorem arr_store (hgd : o.guard = none) (p x : Operand) (ho : o.op = .store T p x) (hp : a.eval p = .pointer (some ⟨g, 0, none⟩)) (hx : a.eval x = .agg (arrC enc n P')) (hi : (Pr.info? T).map (·.size) = some n)
    (h1 : ∀ x, (enc x).oneCell' = true) (hg : Arr enc n T W g P) (h : ∀ w1, Arr enc n T w1 g P' → W.grownBy w1 (some g) → w1.heap.size = W.heap.size → wpList Pr ops Q rest (a.put o.dst undef) w1) : wpList Pr ops Q (o :: rest) a W := by
  have hl : (arrC enc n P').toList.length = n := by simp [arrC]
  have hst := run_store_run (P := Pr) T (.agg (arrC enc n P')) (arrC enc n P').toList (o := 0) hg rfl (by rw [hl]; exact hi) (by rw [hl, arrC_size]; omega) (by
    intro q hq
    simp only [arrC, List.mem_map] at hq
    obtain ⟨j, _, rfl⟩ := hq
    exact h1 _)
  obtain ⟨cur', g1, g2, g3⟩ := setCells_row (arrC enc n P').toList 0 W _ hg (by rw [hl, arrC_size]; omega)
  obtain ⟨s1, s2, s3, s4⟩ := setCells_same g (arrC enc n P').toList 0 W
  have hcur : cur' = arrC enc n P' := by
    apply Array.ext'
    rw [g3, List.take_zero, List.nil_append, hl, Nat.zero_add, List.drop_of_length_le (by rw [Array.length_toList, arrC_size]; exact Nat.le_refl _), List.append_nil]
  subst hcur
  refine wpList_plain hgd fun K hK => ?_
  unfold Oper.wp execOp
  simp only [ho, hp, hx, Sem.run_bind, Sem.run_pure, Result.andThen_ok, hst]
  exact hK _ _ (h _ g1 ⟨s1, s2, s3, by rw [s4]; exact Nat.le_refl _, fun k _ hk => setCells_far _ _ k (fun he => hk (by rw [he]))⟩ s4)
/-- copy(x[:], s) -/
theorem arr_copy (hgd : o.guard = none) (x y : Operand) (t t' : TypeId) (ho : o.op = .call { callee := .builtin .copy, args := #[x, y], argTypes := #[t, t'] }) (hx : a.eval x = .slice (some ⟨g, 0, none⟩) n n)
    (ad : Addr) (m c : Nat) (hy : a.eval y = .slice (some ad) m c) {e : Nat} (ht : Pr.underlying t = some (.slice e)) (hi : (Pr.info? e).map (·.size) = some 1) (hm : m ≤ n)
    (S : Nat → α) (hs : ∀ j, j < m → W.cell? (ad.add j) = some (enc (S j))) (h1 : ∀ x, (enc x).oneCell' = true)
    (hg : Arr enc n T W g P) (h : ∀ w1, Arr enc n T w1 g (fun j => if j < m then S j else P j) → W.grownBy w1 (some g) → w1.heap.size = W.heap.size → wpList Pr ops Q rest (a.put o.dst (goInt m)) w1) : wpList Pr ops Q (o :: rest) a W := by
  obtain ⟨vs, hvs⟩ : ∃ vs, vs = (List.range m).map fun j => enc (S j) := ⟨_, rfl⟩
  have hl : vs.length = m := by simp [hvs]
  have hone : ∀ q ∈ vs, q.oneCell' = true := by
    intro q hq
    rw [hvs, List.mem_map] at hq
    obtain ⟨j, _, rfl⟩ := hq
    exact h1 _
  have hr := run_copy_cells (P := Pr) W t t' o.type e g 0 n n ad m c vs ht hi (by rw [hl]; exact (Nat.min_eq_left hm).symm)
    (fun j v hj => by
      have hjm : j < m := by rw [← hl]; exact (List.getElem?_eq_some_iff.1 hj).1
      rw [hvs, List.getElem?_map, List.getElem?_range hjm] at hj
      rw [hs j hjm]
      exact hj)
    (fun j hj => by rw [Nat.zero_add, Arr.cell hg j (by omega)]; rfl) (fun j hj => by rw [Nat.zero_add]; exact Arr.free hg j (by omega)) hone
  obtain ⟨cur', g1, g2, g3⟩ := setCells_row vs 0 W _ hg (by rw [hl, arrC_size]; omega)
  obtain ⟨s1, s2, s3, s4⟩ := setCells_same g vs 0 W
  have hcur : cur' = arrC enc n (fun j => if j < m then S j else P j) := by
    apply Array.ext_getElem?
    intro k
    rw [← Array.getElem?_toList, g3, List.take_zero, List.nil_append, hl, Nat.zero_add, List.getElem?_append, hl]
    by_cases hk : k < m
    · rw [if_pos hk, hvs, List.getElem?_map, List.getElem?_range hk, arrC_get k (by omega)]
      simp [hk]
    · rw [if_neg hk, List.getElem?_drop, show m + (k - m) = k from by omega, Array.getElem?_toList]
      by_cases hn : k < n
      · rw [arrC_get k hn, arrC_get k hn]
        simp [hk]
      · rw [Array.getElem?_eq_none (by rw [arrC_size]; omega), Array.getElem?_eq_none (by rw [arrC_size]; omega)]
  subst hcur
  refine Kd.event_run hgd ?_ (h _ g1 ⟨s1, s2, s3, by rw [s4]; exact Nat.le_refl _, fun k _ hk => setCells_far _ _ k (fun he => hk (by rw [he]))⟩ s4)
  simp [execOp, ho, resolve, invoke, builtin, hx, hy, hr, hl]
end
end Go.Proofs.YtdgeapgfpikcmaaV.PrintWords
