/-
  The constellations: what is said of a set.
-/
import Derived.Test.YtgfbejlggakkhaaPt0
import Derived.Laws.EntriesVeiled
namespace Go.Proofs.Ytgfbejlggakkhaa.Hand
open Go.RowKit Go.Proofs.Ytgfbejlggakkhaa.Q Go.Proofs.YtgfbejlggakkhaaW.PrintWords Go.Proofs.YtgfbejlggakkhaaW.PrintLast Go.Proofs.YtgfbejlggakkhaaW.PrintMore
set_option linter.unusedVariables false

/-- a square's point, out of its label -/
def sqF (half : Nat) (edge l : Int) : Option (Nat × Nat) :=
  (bits_Ungray.f 40 (l / 2 ^ half)).bind fun p => (bits_Ungray.f 40 (Go.bits .and .i64 l (2 ^ half - 1))).bind fun q => some (axisOf edge p.1, axisOf edge q.1)
/-- a cross' point, out of its label -/
def crF (edge most l : Int) : Option (Nat × Nat) := crossGo edge most 40 (wrap64 (-edge)) l
/-- the sets: bits, edge, points -/
def setF (size : Int) : Option (Int × Int × (Int → Option (Nat × Nat))) :=
  if size = 4 then some (2, 1, sqF 1 1) else if size = 16 then some (4, 3, sqF 2 3) else if size = 32 then some (5, 5, crF 5 3) else if size = 64 then some (6, 7, sqF 3 7) else if size = 128 then some (7, 11, crF 11 7) else if size = 256 then some (8, 15, sqF 4 15) else none
/-- a value that says this of a set; its three cells lie behind 'lo' -/
def IsSet (lo : Nat) (w : World) (v : Value) (b e : Int) (pt : Int → Option (Nat × Nat)) : Prop :=
  ∃ fn g1 g2 g3 : Nat, v = .agg #[.int .i64 b, .int .i64 e, .func (.func fn) #[] #[.pointer (some ⟨g1, 0, none⟩), .pointer (some ⟨g2, 0, none⟩)]] ∧ (fn = 79 ∨ fn = 80) ∧
    (∀ g, g = g1 ∨ g = g2 ∨ g = g3 → lo ≤ g ∧ g < w.heap.size) ∧
    ∀ w1 : World, (∀ g, g = g1 ∨ g = g2 ∨ g = g3 → w1.heap[g]? = w.heap[g]?) → ∀ l r, pt l = some r → Calls Try.prog fn #[.int .i64 l, .pointer (some ⟨g1, 0, none⟩), .pointer (some ⟨g2, 0, none⟩)] w1 fun e w' => e = .returned (.complex .f64 r.1 r.2) ∧ Drawn0 w1 w'
theorem IsSet.move {lo : Nat} {w w1 : World} {v : Value} {b e : Int} {pt : Int → Option (Nat × Nat)} (h : IsSet lo w v b e pt) (hs : w.heap.size ≤ w1.heap.size) (hb : ∀ g, lo ≤ g → g < w.heap.size → w1.heap[g]? = w.heap[g]?) : IsSet lo w1 v b e pt := by
  obtain ⟨fn, g1, g2, g3, hv, hf, hl, hc⟩ := h
  exact ⟨fn, g1, g2, g3, hv, hf, fun g hg => ⟨(hl g hg).1, Nat.lt_of_lt_of_le (hl g hg).2 hs⟩, fun w2 h2 => hc w2 (fun g hg => (h2 g hg).trans (hb g (hl g hg).1 (hl g hg).2))⟩
theorem IsSet.below {lo : Nat} {w w1 : World} {v : Value} {b e : Int} {pt : Int → Option (Nat × Nat)} (h : IsSet lo w v b e pt) (hb : Below w.heap.size w w1) : IsSet lo w1 v b e pt :=
  h.move hb.size (fun g _ hg => hb.block g hg)
theorem cell_of_heap {w w1 : World} {g : Nat} {v : Value} (h : w1.heap[g]? = w.heap[g]?) (hc : w.cell? ⟨g, 0, none⟩ = some v) : w1.cell? ⟨g, 0, none⟩ = some v :=
  (World.cell?_of_block (w := w) (a := ⟨g, 0, none⟩) h).trans hc
theorem alloc4 (w : World) (A B C D : Obj) : Below w.heap.size w ((((w.alloc A).alloc B).alloc C).alloc D) ∧ ((((w.alloc A).alloc B).alloc C).alloc D).heap[w.heap.size]? = some A ∧
    ((((w.alloc A).alloc B).alloc C).alloc D).heap[w.heap.size + 1]? = some B ∧ ((((w.alloc A).alloc B).alloc C).alloc D).heap[w.heap.size + 1 + 1]? = some C ∧ ((((w.alloc A).alloc B).alloc C).alloc D).heap[w.heap.size + 1 + 1 + 1]? = some D := by
  have s1 : (w.alloc A).heap.size = w.heap.size + 1 := World.size_alloc _ _
  have s2 : ((w.alloc A).alloc B).heap.size = w.heap.size + 1 + 1 := by rw [World.size_alloc, s1]
  have s3 : (((w.alloc A).alloc B).alloc C).heap.size = w.heap.size + 1 + 1 + 1 := by rw [World.size_alloc, s2]
  refine ⟨below_alloc (below_alloc (below_alloc (below_alloc (Below.refl _ _) _) _) _) _, blk_alloc (blk_alloc (blk_alloc (heap_alloc_new w A) B) C) D, ?_, ?_, ?_⟩
  · rw [← s1]; exact blk_alloc (blk_alloc (heap_alloc_new _ B) C) D
  · rw [← s2]; exact blk_alloc (heap_alloc_new _ C) D
  · rw [← s3]; exact heap_alloc_new _ D
theorem alloc3 (w : World) (A B C : Obj) : Below w.heap.size w (((w.alloc A).alloc B).alloc C) ∧ (((w.alloc A).alloc B).alloc C).heap[w.heap.size]? = some A ∧
    (((w.alloc A).alloc B).alloc C).heap[w.heap.size + 1]? = some B ∧ (((w.alloc A).alloc B).alloc C).heap[w.heap.size + 1 + 1]? = some C := by
  have s1 : (w.alloc A).heap.size = w.heap.size + 1 := World.size_alloc _ _
  have s2 : ((w.alloc A).alloc B).heap.size = w.heap.size + 1 + 1 := by rw [World.size_alloc, s1]
  refine ⟨below_alloc (below_alloc (below_alloc (Below.refl _ _) _) _) _, blk_alloc (blk_alloc (heap_alloc_new w A) B) C, ?_, ?_⟩
  · rw [← s1]; exact blk_alloc (heap_alloc_new _ B) C
  · rw [← s2]; exact heap_alloc_new _ C

set_option maxHeartbeats 4000000 in
set_option maxRecDepth 100000 in
theorem square_calls (n edge : Int) (half : Nat) (hn : (n = 2 ∧ half = 1) ∨ (n = 4 ∧ half = 2) ∨ (n = 6 ∧ half = 3) ∨ (n = 8 ∧ half = 4)) (w : World) :
    Calls Try.prog 65 #[.int .i64 n, .int .i64 edge] w fun e w' => ∃ v, e = .returned v ∧ Below w.heap.size w w' ∧ IsSet w.heap.size w' v n edge (sqF half edge) := by
  go_enter Try.func65, Try.ntmps65
  go_wp2
  obtain ⟨HB, q1, q2, q3, q4⟩ := alloc4 w (Obj.cells #[Value.int IntKind.i64 n] 3) (Obj.cells #[Value.int IntKind.i64 edge] 3) (Obj.cells #[Value.int IntKind.i64 n, Value.int IntKind.i64 edge, Value.func (Fn.func 79) #[] #[Value.pointer (some { block := w.heap.size, off := 0 }), Value.pointer (some { block := w.heap.size + 1 + 1 + 1, off := 0 })]] 88) (Obj.cells #[Value.func (Fn.func 77) #[] #[Value.pointer (some { block := w.heap.size + 1, off := 0 })]] 68)
  generalize ((((w.alloc (Obj.cells #[Value.int IntKind.i64 n] 3)).alloc (Obj.cells #[Value.int IntKind.i64 edge] 3)).alloc (Obj.cells #[Value.int IntKind.i64 n, Value.int IntKind.i64 edge, Value.func (Fn.func 79) #[] #[Value.pointer (some { block := w.heap.size, off := 0 }), Value.pointer (some { block := w.heap.size + 1 + 1 + 1, off := 0 })]] 88)).alloc (Obj.cells #[Value.func (Fn.func 77) #[] #[Value.pointer (some { block := w.heap.size + 1, off := 0 })]] 68)) = W at HB q1 q2 q3 q4 ⊢
  refine bodyPost_ret (results_single rfl (.cell _ 88 _ (0, 0) _ rfl q3 Try.underlying88 rfl (by kernel_rfl) .nil)) rfl ?_
  refine ⟨_, rfl, HB, _, _, _, w.heap.size + 1, rfl, .inl rfl, fun g hg => ?_, fun w1 hb l r hr => ?_⟩
  · have l1 := blk_lt q1
    have l2 := blk_lt q2
    have l4 := blk_lt q4
    omega
  · unfold sqF at hr
    obtain ⟨p, hp, hr⟩ := Option.bind_eq_some_iff.mp hr
    obtain ⟨q, hq, hr⟩ := Option.bind_eq_some_iff.mp hr
    obtain rfl := Option.some.inj hr
    exact square_at 40 n edge l half (w.heap.size + 1) _ _ w1 p.1 q.1 p.2 q.2 hn (cell_of_heap (hb _ (.inl rfl)) ((blk_cell q1 0).trans rfl)) (cell_of_heap (hb _ (.inr (.inl rfl))) ((blk_cell q4 0).trans rfl)) (cell_of_heap (hb _ (.inr (.inr rfl))) ((blk_cell q2 0).trans rfl)) hp hq
set_option maxHeartbeats 4000000 in
set_option maxRecDepth 100000 in
theorem cross_calls (n edge most : Int) (w : World) :
    Calls Try.prog 66 #[.int .i64 n, .int .i64 edge, .int .i64 most] w fun e w' => ∃ v, e = .returned v ∧ Below w.heap.size w w' ∧ IsSet w.heap.size w' v n edge (crF edge most) := by
  go_enter Try.func66, Try.ntmps66
  go_wp2
  obtain ⟨HB, q1, q2, q3⟩ := alloc3 w (Obj.cells #[Value.int IntKind.i64 edge] 3) (Obj.cells #[Value.int IntKind.i64 most] 3) (Obj.cells #[Value.int IntKind.i64 n, Value.int IntKind.i64 edge, Value.func (Fn.func 80) #[] #[Value.pointer (some { block := w.heap.size, off := 0 }), Value.pointer (some { block := w.heap.size + 1, off := 0 })]] 88)
  generalize (((w.alloc (Obj.cells #[Value.int IntKind.i64 edge] 3)).alloc (Obj.cells #[Value.int IntKind.i64 most] 3)).alloc (Obj.cells #[Value.int IntKind.i64 n, Value.int IntKind.i64 edge, Value.func (Fn.func 80) #[] #[Value.pointer (some { block := w.heap.size, off := 0 }), Value.pointer (some { block := w.heap.size + 1, off := 0 })]] 88)) = W at HB q1 q2 q3 ⊢
  refine bodyPost_ret (results_single rfl (.cell _ 88 _ (0, 0) _ rfl q3 Try.underlying88 rfl (by kernel_rfl) .nil)) rfl ?_
  refine ⟨_, rfl, HB, _, _, _, w.heap.size, rfl, .inr rfl, fun g hg => ?_, fun w1 hb l r hr => ?_⟩
  · have l1 := blk_lt q1
    have l2 := blk_lt q2
    omega
  · exact cross_at 40 edge most l _ _ w1 r (cell_of_heap (hb _ (.inl rfl)) ((blk_cell q1 0).trans rfl)) (cell_of_heap (hb _ (.inr (.inl rfl))) ((blk_cell q2 0).trans rfl)) hr
/-- a struct of three cells, stored into its variable -/
theorem put3 {W : World} {g : Nat} {x y z : Value} {t : TypeId} (h : W.heap[g]? = some (.cells #[x, y, z] t (0, 0))) (a b c : Value) : (((W.setCell ⟨g, 0, none⟩ a).setCell ⟨g, 1, none⟩ b).setCell ⟨g, 2, none⟩ c).heap[g]? = some (.cells #[a, b, c] t (0, 0)) :=
  blk_put (blk_put (blk_put h 0 a (cs' := #[a, y, z]) rfl) 1 b (cs' := #[a, b, z]) rfl) 2 c rfl
theorem put3_far {W : World} {g k : Nat} (hk : k ≠ g) (a b c : Value) : (((W.setCell ⟨g, 0, none⟩ a).setCell ⟨g, 1, none⟩ b).setCell ⟨g, 2, none⟩ c).heap[k]? = W.heap[k]? := by
  rw [Below.heap_setCell _ _ _ _ hk, Below.heap_setCell _ _ _ _ hk, Below.heap_setCell _ _ _ _ hk]
theorem free_of {W : World} {g : Nat} {cs : Array Value} {t : TypeId} (h : W.heap[g]? = some (.cells cs t (0, 0))) (j : Nat) : W.frozen? ⟨g, j, none⟩ = false := by
  simp [World.frozen?, h]
def OfPost (size : Int) (w : World) (e : Ending) (w' : World) : Prop := ∃ v ok, e = .returned (.tuple #[v, .bool ok]) ∧ Below w.heap.size w w' ∧ (setF size = none → ok = false ∧ v = .agg #[.int .i64 0, .int .i64 0, .nilFunc]) ∧ (∀ b e pt, setF size = some (b, e, pt) → ok = true ∧ IsSet w.heap.size w' v b e pt)
theorem of_end {size : Int} {w w' : World} {o : Obj} {x y z : Value} {b e : Int} {pt : Int → Option (Nat × Nat)} (hF : setF size = some (b, e, pt)) (hb : Below (w.alloc o).heap.size (w.alloc o) w') (hq : w'.heap[w.heap.size]? = some (.cells #[x, y, z] 88 (0, 0))) {u1 u2 u3 : Value}
    (hs : IsSet (w.alloc o).heap.size w' (.agg #[u1, u2, u3]) b e pt) : OfPost size w (.returned (.tuple #[.agg #[u1, u2, u3], .bool true])) (((w'.setCell ⟨w.heap.size, 0, none⟩ u1).setCell ⟨w.heap.size, 1, none⟩ u2).setCell ⟨w.heap.size, 2, none⟩ u3) := by
  have hsz : (w.alloc o).heap.size = w.heap.size + 1 := World.size_alloc _ _
  have HB : Below w.heap.size w w' := below_step (below_alloc (Below.refl _ _) o) hb
  refine ⟨_, _, rfl, ((HB.setCell (Nat.le_refl _) _).setCell (Nat.le_refl _) _).setCell (Nat.le_refl _) _, ⟨fun h => ?_, fun b' e' pt' h => ?_⟩⟩
  · rw [hF] at h; cases h
  rw [hF] at h
  injection h with h
  injection h with h1 h2
  injection h2 with h2 h3
  subst h1 h2 h3
  obtain ⟨fn, g1, g2, g3, hv, hf, hl, hc⟩ := hs.move (w1 := (((w'.setCell ⟨w.heap.size, 0, none⟩ u1).setCell ⟨w.heap.size, 1, none⟩ u2).setCell ⟨w.heap.size, 2, none⟩ u3)) (by simp only [World.size_setCell]; exact Nat.le_refl _) (fun g hg _ => put3_far (by omega) _ _ _)
  exact ⟨rfl, fn, g1, g2, g3, hv, hf, fun g hg => ⟨by have := (hl g hg).1; omega, (hl g hg).2⟩, hc⟩
set_option maxHeartbeats 4000000 in
set_option maxRecDepth 100000 in
theorem of_calls (size : Int) (w : World) : Calls Try.prog 56 #[.int .i64 size] w (OfPost size w) := by
  by_cases c4 : size = 4
  · subst c4
    go_enter Try.func56, Try.ntmps56
    go_wp2_with ((with_reducible refine gate_callee (f := 65) rfl ?_); refine goesL_ (some 7) rfl rfl Try.func65 (by kernel_rfl) rfl #[.int .i64 2, .int .i64 1] rfl (by (try simp only [List.map_toArray, List.map_cons, List.map_nil]); first | done | rfl) ?_; (with_reducible refine (square_calls 2 1 1 (by decide) _).mono ?_); rintro e w' ⟨v, rfl, hb, hs⟩; obtain ⟨fn, g1, g2, g3, rfl, hS⟩ := hs; have hq := blk_below (heap_alloc_new w (Obj.cells #[.int .i64 0, .int .i64 0, .nilFunc] 88)) hb; have z0 := (blk_cell hq 0).trans (rfl : _ = some (Value.int .i64 0)); have z1 := (blk_cell hq 1).trans (rfl : _ = some (Value.int .i64 0)); have z2 := (blk_cell hq 2).trans (rfl : _ = some Value.nilFunc); have f0 := free_of hq 0; have f1 := free_of hq 1; have f2 := free_of hq 2; refine ⟨_, rfl, ?_⟩)
    have hq2 := put3 hq
    refine bodyPost_ret (results_ct rfl _ _ _ 88 _ (0, 0) _ rfl (hq2 _ _ _) Try.underlying88 rfl (by kernel_rfl)) rfl ?_
    exact of_end rfl hb hq ⟨fn, g1, g2, g3, rfl, hS⟩
  by_cases c16 : size = 16
  · subst c16
    go_enter Try.func56, Try.ntmps56
    go_wp2_with ((with_reducible refine gate_callee (f := 65) rfl ?_); refine goesL_ (some 10) rfl rfl Try.func65 (by kernel_rfl) rfl #[.int .i64 4, .int .i64 3] rfl (by (try simp only [List.map_toArray, List.map_cons, List.map_nil]); first | done | rfl) ?_; (with_reducible refine (square_calls 4 3 2 (by decide) _).mono ?_); rintro e w' ⟨v, rfl, hb, hs⟩; obtain ⟨fn, g1, g2, g3, rfl, hS⟩ := hs; have hq := blk_below (heap_alloc_new w (Obj.cells #[.int .i64 0, .int .i64 0, .nilFunc] 88)) hb; have z0 := (blk_cell hq 0).trans (rfl : _ = some (Value.int .i64 0)); have z1 := (blk_cell hq 1).trans (rfl : _ = some (Value.int .i64 0)); have z2 := (blk_cell hq 2).trans (rfl : _ = some Value.nilFunc); have f0 := free_of hq 0; have f1 := free_of hq 1; have f2 := free_of hq 2; refine ⟨_, rfl, ?_⟩)
    have hq2 := put3 hq
    refine bodyPost_ret (results_ct rfl _ _ _ 88 _ (0, 0) _ rfl (hq2 _ _ _) Try.underlying88 rfl (by kernel_rfl)) rfl ?_
    exact of_end rfl hb hq ⟨fn, g1, g2, g3, rfl, hS⟩
  by_cases c32 : size = 32
  · subst c32
    go_enter Try.func56, Try.ntmps56
    go_wp2_with ((with_reducible refine gate_callee (f := 66) rfl ?_); refine goesL_ (some 13) rfl rfl Try.func66 (by kernel_rfl) rfl #[.int .i64 5, .int .i64 5, .int .i64 3] rfl (by (try simp only [List.map_toArray, List.map_cons, List.map_nil]); first | done | rfl) ?_; (with_reducible refine (cross_calls 5 5 3 _).mono ?_); rintro e w' ⟨v, rfl, hb, hs⟩; obtain ⟨fn, g1, g2, g3, rfl, hS⟩ := hs; have hq := blk_below (heap_alloc_new w (Obj.cells #[.int .i64 0, .int .i64 0, .nilFunc] 88)) hb; have z0 := (blk_cell hq 0).trans (rfl : _ = some (Value.int .i64 0)); have z1 := (blk_cell hq 1).trans (rfl : _ = some (Value.int .i64 0)); have z2 := (blk_cell hq 2).trans (rfl : _ = some Value.nilFunc); have f0 := free_of hq 0; have f1 := free_of hq 1; have f2 := free_of hq 2; refine ⟨_, rfl, ?_⟩)
    have hq2 := put3 hq
    refine bodyPost_ret (results_ct rfl _ _ _ 88 _ (0, 0) _ rfl (hq2 _ _ _) Try.underlying88 rfl (by kernel_rfl)) rfl ?_
    exact of_end rfl hb hq ⟨fn, g1, g2, g3, rfl, hS⟩
  by_cases c64 : size = 64
  · subst c64
    go_enter Try.func56, Try.ntmps56
    go_wp2_with ((with_reducible refine gate_callee (f := 65) rfl ?_); refine goesL_ (some 16) rfl rfl Try.func65 (by kernel_rfl) rfl #[.int .i64 6, .int .i64 7] rfl (by (try simp only [List.map_toArray, List.map_cons, List.map_nil]); first | done | rfl) ?_; (with_reducible refine (square_calls 6 7 3 (by decide) _).mono ?_); rintro e w' ⟨v, rfl, hb, hs⟩; obtain ⟨fn, g1, g2, g3, rfl, hS⟩ := hs; have hq := blk_below (heap_alloc_new w (Obj.cells #[.int .i64 0, .int .i64 0, .nilFunc] 88)) hb; have z0 := (blk_cell hq 0).trans (rfl : _ = some (Value.int .i64 0)); have z1 := (blk_cell hq 1).trans (rfl : _ = some (Value.int .i64 0)); have z2 := (blk_cell hq 2).trans (rfl : _ = some Value.nilFunc); have f0 := free_of hq 0; have f1 := free_of hq 1; have f2 := free_of hq 2; refine ⟨_, rfl, ?_⟩)
    have hq2 := put3 hq
    refine bodyPost_ret (results_ct rfl _ _ _ 88 _ (0, 0) _ rfl (hq2 _ _ _) Try.underlying88 rfl (by kernel_rfl)) rfl ?_
    exact of_end rfl hb hq ⟨fn, g1, g2, g3, rfl, hS⟩
  by_cases c128 : size = 128
  · subst c128
    go_enter Try.func56, Try.ntmps56
    go_wp2_with ((with_reducible refine gate_callee (f := 66) rfl ?_); refine goesL_ (some 19) rfl rfl Try.func66 (by kernel_rfl) rfl #[.int .i64 7, .int .i64 11, .int .i64 7] rfl (by (try simp only [List.map_toArray, List.map_cons, List.map_nil]); first | done | rfl) ?_; (with_reducible refine (cross_calls 7 11 7 _).mono ?_); rintro e w' ⟨v, rfl, hb, hs⟩; obtain ⟨fn, g1, g2, g3, rfl, hS⟩ := hs; have hq := blk_below (heap_alloc_new w (Obj.cells #[.int .i64 0, .int .i64 0, .nilFunc] 88)) hb; have z0 := (blk_cell hq 0).trans (rfl : _ = some (Value.int .i64 0)); have z1 := (blk_cell hq 1).trans (rfl : _ = some (Value.int .i64 0)); have z2 := (blk_cell hq 2).trans (rfl : _ = some Value.nilFunc); have f0 := free_of hq 0; have f1 := free_of hq 1; have f2 := free_of hq 2; refine ⟨_, rfl, ?_⟩)
    have hq2 := put3 hq
    refine bodyPost_ret (results_ct rfl _ _ _ 88 _ (0, 0) _ rfl (hq2 _ _ _) Try.underlying88 rfl (by kernel_rfl)) rfl ?_
    exact of_end rfl hb hq ⟨fn, g1, g2, g3, rfl, hS⟩
  by_cases c256 : size = 256
  · subst c256
    go_enter Try.func56, Try.ntmps56
    go_wp2_with ((with_reducible refine gate_callee (f := 65) rfl ?_); refine goesL_ (some 22) rfl rfl Try.func65 (by kernel_rfl) rfl #[.int .i64 8, .int .i64 15] rfl (by (try simp only [List.map_toArray, List.map_cons, List.map_nil]); first | done | rfl) ?_; (with_reducible refine (square_calls 8 15 4 (by decide) _).mono ?_); rintro e w' ⟨v, rfl, hb, hs⟩; obtain ⟨fn, g1, g2, g3, rfl, hS⟩ := hs; have hq := blk_below (heap_alloc_new w (Obj.cells #[.int .i64 0, .int .i64 0, .nilFunc] 88)) hb; have z0 := (blk_cell hq 0).trans (rfl : _ = some (Value.int .i64 0)); have z1 := (blk_cell hq 1).trans (rfl : _ = some (Value.int .i64 0)); have z2 := (blk_cell hq 2).trans (rfl : _ = some Value.nilFunc); have f0 := free_of hq 0; have f1 := free_of hq 1; have f2 := free_of hq 2; refine ⟨_, rfl, ?_⟩)
    have hq2 := put3 hq
    refine bodyPost_ret (results_ct rfl _ _ _ 88 _ (0, 0) _ rfl (hq2 _ _ _) Try.underlying88 rfl (by kernel_rfl)) rfl ?_
    exact of_end rfl hb hq ⟨fn, g1, g2, g3, rfl, hS⟩
  go_enter Try.func56, Try.ntmps56
  go_wp2
  have hq := heap_alloc_new w (Obj.cells #[Value.int IntKind.i64 0, Value.int IntKind.i64 0, Value.nilFunc] 88)
  have hN : setF size = none := by
    unfold setF
    rw [if_neg c4, if_neg c16, if_neg c32, if_neg c64, if_neg c128, if_neg c256]
  refine bodyPost_ret (results_ct rfl _ _ _ 88 _ (0, 0) _ rfl hq Try.underlying88 rfl (by kernel_rfl)) rfl ?_
  exact ⟨_, _, rfl, below_alloc (Below.refl _ _) _, ⟨fun _ => ⟨rfl, rfl⟩, fun b e pt h => by rw [hN] at h; cases h⟩⟩
end Go.Proofs.Ytgfbejlggakkhaa.Hand
