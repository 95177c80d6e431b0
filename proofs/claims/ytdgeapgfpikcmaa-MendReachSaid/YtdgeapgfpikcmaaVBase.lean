/-
  A row of the call's own, whose block may bear a mark behind its cells (what a conversion of a string to bytes makes).
-/
import Derived.Laws.OwnMore
import Derived.Maps.AppendAt
import Derived.Lib.AppendStr
import Derived.Lib.ConvBytes
import Derived.Laws.IdiomCopy
import Derived.Below
namespace Go

/-- block g holds these cells of this type; none of them is frozen -/
def RowIn (w : World) (g : Nat) (cur : Array Value) (e : TypeId) : Prop := ∃ fr : Nat × Nat, w.heap[g]? = some (.cells cur e fr) ∧ (fr = (0, 0) ∨ cur.size ≤ fr.1)
theorem RowIn.of {w : World} {g : Nat} {cur : Array Value} {e : TypeId} (h : w.heap[g]? = some (.cells cur e (0, 0))) : RowIn w g cur e := ⟨_, h, .inl rfl⟩
theorem RowIn.move {w w1 : World} {g : Nat} {cur : Array Value} {e : TypeId} (h : RowIn w g cur e) (hm : w1.heap[g]? = w.heap[g]?) : RowIn w1 g cur e := by
  obtain ⟨fr, h1, h2⟩ := h; exact ⟨fr, hm.trans h1, h2⟩
theorem RowIn.cell {w : World} {g : Nat} {cur : Array Value} {e : TypeId} (h : RowIn w g cur e) (j : Nat) : w.cell? ⟨g, j, none⟩ = cur[j]? := by
  obtain ⟨fr, h1, _⟩ := h; exact cell_of_row w g j cur e fr h1
theorem RowIn.free {w : World} {g : Nat} {cur : Array Value} {e : TypeId} (h : RowIn w g cur e) (j : Nat) (hj : j < cur.size) : w.frozen? ⟨g, j, none⟩ = false := by
  obtain ⟨⟨lo, hi⟩, h1, h2⟩ := h
  rcases h2 with h2 | h2
  · simp only [Prod.mk.injEq] at h2
    obtain ⟨rfl, rfl⟩ := h2
    simp [World.frozen?, h1]
  · have h2 : cur.size ≤ lo := h2
    have h3 : ¬ lo ≤ j := by omega
    simp [World.frozen?, h1, h3]
theorem RowIn.lt {w : World} {g : Nat} {cur : Array Value} {e : TypeId} (h : RowIn w g cur e) : g < w.heap.size := by
  obtain ⟨fr, h1, _⟩ := h; exact (Array.getElem?_eq_some_iff.1 h1).1
theorem RowIn.set {w : World} {g : Nat} {cur : Array Value} {e : TypeId} (h : RowIn w g cur e) (j : Nat) (u : Value) : RowIn (w.setCell ⟨g, j, none⟩ u) g (cur.setIfInBounds j u) e := by
  obtain ⟨fr, h1, h2⟩ := h
  refine ⟨fr, ?_, by simpa using h2⟩
  obtain ⟨hlt, hv⟩ := Array.getElem?_eq_some_iff.1 h1
  unfold World.setCell
  rw [Array.getElem?_eq_getElem (by simpa using hlt), Array.getElem_modify]
  simp [hv]
theorem RowIn.ne {w : World} {g g' : Nat} {cur cur' : Array Value} {e e' : TypeId} (h : RowIn w g cur e) (h' : RowIn w g' cur' e') (hne : e ≠ e') : g ≠ g' := by
  intro e0; subst e0
  obtain ⟨fr, h1, _⟩ := h
  obtain ⟨fr', h1', _⟩ := h'
  rw [h1] at h1'
  simp at h1'
  exact hne h1'.2.1

/-- a row of the call's own -/
def World.ownsRw (w : World) (base : Nat) (e : TypeId) (size : Nat) (v : Value) (n : Nat) (xs : List Value) : Prop :=
  xs.length = n * size ∧
  ((v = .slice none 0 0 ∧ n = 0) ∨
   ∃ g cap cur, v = .slice (some ⟨g, 0, none⟩) n cap ∧ base ≤ g ∧ RowIn w g cur e ∧ n ≤ cap ∧ cap ≤ maxLen ∧ cur.size = cap * size ∧ cur.toList.take (n * size) = xs)
section
variable {P : Program} {w : World} {base : Nat} {e : TypeId} {size : Nat} {v : Value} {n : Nat} {xs : List Value}
theorem World.ownsRw.of (h : w.ownsRow base e size v n xs) : w.ownsRw base e size v n xs := by
  obtain ⟨h1, h2⟩ := h
  refine ⟨h1, ?_⟩
  rcases h2 with h2 | ⟨g, cap, cur, h3, h4, h5, h6⟩
  · exact .inl h2
  · exact .inr ⟨g, cap, cur, h3, h4, RowIn.of h5, h6⟩
theorem World.ownsRw_lit (w : World) (cs : Array Value) (n : Nat) (hb : base ≤ w.heap.size) (hm : n ≤ maxLen) (hs : cs.size = n * size) :
    (w.alloc (.cells cs e)).ownsRw base e size (.slice (some ⟨w.heap.size, 0, none⟩) n n) n cs.toList := .of (World.ownsRow_lit w cs n hb hm hs)
theorem World.ownsRw.cells (h : w.ownsRw base e size v n xs) {g : Nat} (hg : v.ownBlock = some g) : ∀ j u, xs[j]? = some u → w.cell? ((⟨g, 0, none⟩ : Addr).add j) = some u := by
  intro j u hu
  rcases h.2 with ⟨rfl, _⟩ | ⟨g', cap, cur, rfl, _, hgg, _, _, _, htake⟩
  · simp [Value.ownBlock] at hg
  · simp [Value.ownBlock] at hg
    subst hg
    have hadd : (⟨g', 0, none⟩ : Addr).add j = ⟨g', j, none⟩ := by unfold Addr.add; split <;> simp_all
    have hlt : j < xs.length := (List.getElem?_eq_some_iff.1 hu).1
    rw [hadd, RowIn.cell hgg]
    rw [← htake, List.getElem?_take, if_pos (by rw [← h.1]; exact hlt)] at hu
    rw [← Array.getElem?_toList]
    exact hu
theorem World.ownsRw.kept {w' : World} {row : Option Nat} (h : w.ownsRw base e size v n xs) (hg : w.grownBy w' row) (hne : v.ownBlock = none ∨ v.ownBlock ≠ row) : w'.ownsRw base e size v n xs := by
  refine ⟨h.1, ?_⟩
  rcases h.2 with hn | ⟨g, cap, cur, rfl, hb, hgg, rest⟩
  · exact .inl hn
  · exact .inr ⟨g, cap, cur, rfl, hb, hgg.move (hg.block g hgg.lt (by simpa [Value.ownBlock] using hne)), rest⟩
theorem World.ownsRw.alloc (h : w.ownsRw base e size v n xs) (o : Obj) : (w.alloc o).ownsRw base e size v n xs :=
  h.kept (World.grownBy_alloc w o none) (by cases hv : v.ownBlock <;> simp)
theorem World.ownsRw.form (h : w.ownsRw base e size v n xs) (hn : 0 < n) :
    ∃ g cap, v = .slice (some ⟨g, 0, none⟩) n cap ∧ base ≤ g ∧ g < w.heap.size := by
  rcases h.2 with ⟨_, h0⟩ | ⟨g, cap, cur, hv, hb, hg, _⟩
  · omega
  · exact ⟨g, cap, hv, hb, hg.lt⟩
theorem World.ownsRw.stored {g cap : Nat} (h : w.ownsRw base e size (.slice (some ⟨g, 0, none⟩) n cap) n xs) (j : Nat) (u : Value) :
    (w.setCell ⟨g, j, none⟩ u).ownsRw base e size (.slice (some ⟨g, 0, none⟩) n cap) n (xs.set j u) ∧ w.grownBy (w.setCell ⟨g, j, none⟩ u) (some g) := by
  rcases h.2 with ⟨h', _⟩ | ⟨g', cap', cur, h', hb, hg, hnc, hcm, hcs, htake⟩
  · simp at h'
  · simp only [Value.slice.injEq, Option.some.injEq, Addr.mk.injEq, and_true, true_and] at h'
    obtain ⟨rfl, rfl⟩ := h'
    refine ⟨⟨by simpa using h.1, .inr ⟨g, cap, cur.setIfInBounds j u, rfl, hb, hg.set j u, hnc, hcm, by simpa using hcs, ?_⟩⟩,
      ⟨rfl, rfl, rfl, by simp, fun k _ hk => heap_setCell_other w ⟨g, j, none⟩ k u (fun e => hk (by simp [e]))⟩⟩
    rw [Array.toList_setIfInBounds, ← htake, List.take_set]
/-- cells written one by one into a row -/
theorem run_storeCells_rw (g o : Nat) (t : TypeId) : ∀ (vs : List Value) (i : Nat) (cur : Array Value) (w : World), RowIn w g cur t → o + i + vs.length ≤ cur.size → (∀ v ∈ vs, v.oneCell' = true) →
    ∃ w' cur', (storeCells ⟨g, o, none⟩ vs i).run P w = .ok () w' ∧ RowIn w' g cur' t ∧ cur'.size = cur.size ∧ cur'.toList = cur.toList.take (o + i) ++ vs ++ cur.toList.drop (o + i + vs.length) ∧ w.grownBy w' (some g)
  | [], i, cur, w, hg, _, _ => ⟨w, cur, rfl, hg, rfl, by simp, ⟨rfl, rfl, rfl, Nat.le_refl _, fun _ _ _ => rfl⟩⟩
  | v :: rest, i, cur, w, hg, hl, h1 => by
    have hi : o + i < cur.size := by simp at hl; omega
    have hadd : (⟨g, o, none⟩ : Addr).add i = ⟨g, o + i, none⟩ := by unfold Addr.add; split <;> simp_all
    have hcell : w.cell? ⟨g, o + i, none⟩ = some cur[o + i] := by rw [hg.cell]; simp [hi]
    have hfro := hg.free (o + i) hi
    have hst : (store ((⟨g, o, none⟩ : Addr).add i) v).run P w = .ok () (w.setCell ⟨g, o + i, none⟩ v) := by
      rw [hadd, run_store P w _ v _ (h1 v (by simp)), hcell]
      simp [hfro]
    obtain ⟨w', cur', hr, hg', hs', hl', hw'⟩ := run_storeCells_rw g o t rest (i + 1) (cur.setIfInBounds (o + i) v) (w.setCell ⟨g, o + i, none⟩ v) (hg.set _ _) (by simp at hl ⊢; omega) (fun u hu => h1 u (by simp [hu]))
    refine ⟨w', cur', ?_, hg', by simpa using hs', ?_, ?_⟩
    · simp only [storeCells, Sem.run_bind, hst, Result.andThen_ok]
      exact hr
    · rw [hl', Array.toList_setIfInBounds]
      have e1 : o + (i + 1) = o + i + 1 := by omega
      rw [e1, List.take_set, List.drop_set_of_lt (by omega)]
      have e2 : (cur.toList.take (o + i + 1)).set (o + i) v = cur.toList.take (o + i) ++ [v] := by
        rw [List.take_succ_eq_append_getElem (by simpa using hi), List.set_append_right _ _ (by simp; omega)]
        have : o + i - (List.take (o + i) cur.toList).length = 0 := by simp; omega
        rw [this]; rfl
      rw [e2]
      simp only [List.append_assoc, List.singleton_append, List.length_cons]
      rw [show o + i + 1 + rest.length = o + i + (rest.length + 1) from by omega]
    · refine ⟨hw'.os, hw'.tape, hw'.output, Nat.le_trans (Nat.le_of_eq (World.size_setCell (w := w) (a := ⟨g, o + i, none⟩) (v := v)).symm) hw'.size, fun k hk hne => ?_⟩
      rw [hw'.block k (by simpa using hk) hne]
      exact heap_setCell_other w ⟨g, o + i, none⟩ k v (fun e => hne (by simp [e]))
variable (w)
theorem run_append_rw_at (base : Nat) (t ty e : TypeId) (i : TypeInfo) (z : Value) (size bytes : Nat) (ht : P.underlying t = some (.slice e)) (hi : P.info? e = some i) (hz : i.zero = some z)
    (hsize : i.size = size) (hby : i.bytes = bytes) (hzs : z.cells.size = size) (hsz : 0 < size)
    (v : Value) (n : Nat) (xs : List Value) (hown : w.ownsRw base e size v n xs)
    (a : Addr) (m c : Nat) (news : List Value) (hl : news.length = m * size) (hnews : ∀ j u, news[j]? = some u → w.cell? (a.add j) = some u) (h1 : ∀ u ∈ news, u.oneCell' = true)
    (h63 : n + m ≤ maxLen) (hbytes : (n + m) * bytes ≤ 140737488355328) (hbase : base ≤ w.heap.size) :
    ∃ v' w', (Builtin.append_ #[t, t] ty #[v, .slice (some a) m c]).run P w = .ok v' w' ∧ w'.ownsRw base e size v' (n + m) (xs ++ news) ∧ w.grownBy w' v.ownBlock ∧
      (v' = .slice none 0 0 ↔ v = .slice none 0 0 ∧ m = 0) ∧ (v'.ownBlock = v.ownBlock ∨ v'.ownBlock = some w.heap.size) := by
  rcases hown.2 with ⟨rfl, rfl⟩ | ⟨g, cap, cur, rfl, hbg, hg, hnc, hcm, hcs, htake⟩
  · have h0 : w.ownsRow base e size (.slice none 0 0) 0 xs := ⟨hown.1, .inl ⟨rfl, rfl⟩⟩
    obtain ⟨v', w', g1, g2, g3⟩ := run_append_own_at (P := P) w base t ty e i z size bytes ht hi hz hsize hby hzs hsz _ 0 xs h0 a m c news hl hnews h1 h63 hbytes hbase
    exact ⟨v', w', g1, .of g2, g3⟩
  · subst hsize
    subst hby
    have hsmall : n + m ≤ 9223372036854775807 := by simp only [maxLen] at h63; omega
    have hlen : (xs ++ news).length = (n + m) * i.size := by rw [List.length_append, hown.1, hl, Nat.add_mul]
    by_cases hroom : n + m ≤ cap
    · have hfit : n * i.size + news.length ≤ cur.size := by rw [hl, hcs, ← Nat.add_mul]; exact Nat.mul_le_mul_right _ hroom
      have hf := run_firstCells_some (P := P) w i.size m a m c news hl hnews
      obtain ⟨w', cur', hst, hg', hs', hl', hw'⟩ := run_storeCells_rw (P := P) g (n * i.size) e news 0 cur w hg (by simpa using hfit) h1
      refine ⟨.slice (some ⟨g, 0, none⟩) (n + m) cap, w', ?_, ⟨hlen, .inr ⟨g, cap, cur', rfl, hbg, hg', hroom, hcm, by rw [hs', hcs], ?_⟩⟩, hw', by simp, .inl rfl⟩
      · simp [Builtin.append_, run_underlying ht, sizeOf, typeInfo, hi, Builtin.lenOf, hroom, hf, Addr.add_lit, hst]
      · rw [hl', Nat.add_zero, htake, ← hlen]
        exact List.take_left
    · have holds : ∀ j u, xs[j]? = some u → w.cell? ((⟨g, 0, none⟩ : Addr).add j) = some u := hown.cells (g := g) (by simp [Value.ownBlock])
      have hr := run_append_grow (P := P) w t ty e i z ht hi hz ⟨g, 0, none⟩ n cap xs hown.1 holds a m c news hl hnews (by omega) (by omega) (growslice_fits (by omega) hbytes)
      have hge := grownCap_ge w (n + m) cap e
      have hcm2 : grownCap w (n + m) cap e ≤ maxLen := grownCap_le_maxLen w (n + m) cap e h63
      refine ⟨_, _, hr, ⟨hlen, .inr ⟨w.heap.size, _, _, rfl, hbase, RowIn.of (heap_alloc_new w.drew _), hge, hcm2, ?_, ?_⟩⟩, ⟨rfl, rfl, rfl, by simp, fun k hk _ => heap_alloc_old w.drew _ k hk⟩, by simp, Or.inr rfl⟩
      · simp only [Array.size_append, List.size_toArray, size_zeroCells, hzs, hown.1, hl, ← Nat.add_mul]
        congr 1
        omega
      · simp only [Array.toList_append, List.append_assoc]
        rw [← List.append_assoc, ← hlen]
        exact List.take_left
theorem wpList_append_rw_at {ops : Array Oper} {rest : List Oper} {o : Oper} {a : Act} {Q : Exit → Act → World → Prop} (hgd : o.guard = none) (s x : Operand) (t : TypeId)
    (ho : o.op = .call { callee := .builtin .append, args := #[s, x], argTypes := #[t, t] })
    (base : Nat) (e : TypeId) (i : TypeInfo) (z : Value) (size bytes : Nat) (ht : P.underlying t = some (.slice e)) (hi : P.info? e = some i) (hz : i.zero = some z)
    (hsize : i.size = size) (hby : i.bytes = bytes) (hzs : z.cells.size = size) (hsz : 0 < size)
    (v : Value) (n : Nat) (xs : List Value) (hs : a.eval s = v) (hown : w.ownsRw base e size v n xs)
    (ad : Addr) (m c : Nat) (news : List Value) (hx : a.eval x = .slice (some ad) m c) (hl : news.length = m * size) (hnews : ∀ j u, news[j]? = some u → w.cell? (ad.add j) = some u) (h1 : ∀ u ∈ news, u.oneCell' = true)
    (h63 : n + m ≤ maxLen) (hbytes : (n + m) * bytes ≤ 140737488355328) (hbase : base ≤ w.heap.size)
    (h : ∀ v' w', w'.ownsRw base e size v' (n + m) (xs ++ news) → w.grownBy w' v.ownBlock → (v' = .slice none 0 0 ↔ v = .slice none 0 0 ∧ m = 0) → (v'.ownBlock = v.ownBlock ∨ v'.ownBlock = some w.heap.size) → wpList P ops Q rest (a.put o.dst v') w') :
    wpList P ops Q (o :: rest) a w := by
  refine wpList_plain hgd fun K hK => ?_
  obtain ⟨v', w', hr, h2, h3, h4, h5⟩ := run_append_rw_at (P := P) w base t o.type e i z size bytes ht hi hz hsize hby hzs hsz v n xs hown ad m c news hl hnews h1 h63 hbytes hbase
  unfold Oper.wp execOp
  simp only [ho, resolve, invoke, builtin, Sem.run_bind, Sem.run_pure, Result.andThen_ok, List.map_toArray, List.map_cons, List.map_nil, hs, hx, hr]
  exact hK _ _ (h v' w' h2 h3 h4 h5)
end
end Go
