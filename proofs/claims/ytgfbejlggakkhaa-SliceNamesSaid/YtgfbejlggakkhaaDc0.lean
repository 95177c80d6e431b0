/-
  How numbers are decided: the ways by size.
-/
import Derived.Test.YtgfbejlggakkhaaQx11
import Derived.Laws.EntriesVeiled
import Derived.MapKept
namespace Go.Proofs.Ytgfbejlggakkhaa.Hand
open Go.RowKit Go.Proofs.Ytgfbejlggakkhaa.Q Go.Proofs.YtgfbejlggakkhaaW.PrintWords Go.Proofs.YtgfbejlggakkhaaW.PrintLast Go.Proofs.YtgfbejlggakkhaaW.PrintMore
set_option linter.unusedVariables false

/-- a new key in a map of whole numbers -/
theorem put_step {P : Program} {w : World} {r clock : Nat} {es : Array MapEntry} (mty kt et : TypeId) (key : Int) (val : Value) (hm : P.underlying mty = some (.map kt et)) (hk : P.underlying kt = some (.int .i64)) (hb : w.heap[r]? = some (.map es clock))
    (hf : Instr.findNow (.int .i64) (.int .i64 key) es.toList 0 = some none) :
    ∃ w1, (Instr.mapUpdate mty (.map (some r)) (.int .i64 key) val).run P w = .ok () w1 ∧ w1.heap[r]? = some (.map (es.push { key := .int .i64 key, val := val, born := clock }) (clock + 1)) ∧ (∀ k, k ≠ r → w1.heap[k]? = w.heap[k]?) ∧ (∀ B a, Below B a w → B ≤ r → Below B a w1) := by
  have hr : r < w.heap.size := (Array.getElem?_eq_some_iff.1 hb).1
  have hc : (Instr.checkKey false 10000 kt (.int .i64 key)).run P w = .ok () w := MapKept.run_checkKey (k := .int .i64 key) hk (by simp [MapKept.IsKey]) false 9999
  refine ⟨{ w with heap := w.heap.setIfInBounds r (.map (es.push { key := .int .i64 key, val := val, born := clock }) (clock + 1)) }, ?_, ?_, fun k hk => ?_, fun B a h hB => ⟨h.os, h.tape, h.output, ?_, fun k hk => ?_⟩⟩
  · simp [Instr.mapUpdate, run_underlying hm, MapKept.run_getObj_map hb, hc, MapKept.run_findKey hk hf, MapKept.run_setObj_map _ hb, Result.andThen]
  · simp [hr]
  · simp [Ne.symm hk]
  · simpa using h.size
  · have : r ≠ k := by omega
    simp [this, h.block k hk]
/-- an entry that tells a way -/
def wayEntry (size : Int) (fn born : Nat) : MapEntry := { key := .int .i64 size, val := .agg #[.func (.func fn) #[] #[]], born := born }
def wayEntries : Array MapEntry := #[wayEntry 4 70 0, wayEntry 16 70 1, wayEntry 32 71 2, wayEntry 64 70 3, wayEntry 128 71 4, wayEntry 256 70 5]
set_option maxHeartbeats 4000000 in
set_option maxRecDepth 100000 in
theorem ways_calls (w : World) : Calls Try.prog 60 #[] w fun e w' => ∃ m, e = .returned (.map (some m)) ∧ Below w.heap.size w w' ∧ w'.heap[m]? = some (.map wayEntries 6) := by
  go_enter Try.func60, Try.ntmps60
  go_upto_region 2 with (fail)
  have s1 : (w.alloc (Obj.cells #[Value.func (Fn.func 70) #[] #[]] 99)).heap.size = w.heap.size + 1 := World.size_alloc _ _
  have s2 : ((w.alloc (Obj.cells #[Value.func (Fn.func 70) #[] #[]] 99)).alloc (Obj.cells #[Value.func (Fn.func 71) #[] #[]] 99)).heap.size = w.heap.size + 1 + 1 := by rw [World.size_alloc, s1]
  have q1 := blk_alloc (heap_alloc_new w (Obj.cells #[Value.func (Fn.func 70) #[] #[]] 99)) (Obj.cells #[Value.func (Fn.func 71) #[] #[]] 99)
  have q2 := heap_alloc_new (w.alloc (Obj.cells #[Value.func (Fn.func 70) #[] #[]] 99)) (Obj.cells #[Value.func (Fn.func 71) #[] #[]] 99)
  rw [s1] at q2
  have HB : Below w.heap.size w ((w.alloc (Obj.cells #[Value.func (Fn.func 70) #[] #[]] 99)).alloc (Obj.cells #[Value.func (Fn.func 71) #[] #[]] 99)) := below_alloc (below_alloc (Below.refl _ _) _) _
  generalize ((w.alloc (Obj.cells #[Value.func (Fn.func 70) #[] #[]] 99)).alloc (Obj.cells #[Value.func (Fn.func 71) #[] #[]] 99)) = W at q1 q2 s2 HB ⊢
  have hmk : (Instr.makeMap 100 none).run Try.prog W = .ok (.map (some W.heap.size)) (W.alloc (.map #[] 0)) := rfl
  have h0 : (W.alloc (.map #[] 0)).heap[W.heap.size]? = some (.map #[] 0) := heap_alloc_new W _
  have k0 : ∀ k, k < W.heap.size → (W.alloc (.map #[] 0)).heap[k]? = W.heap[k]? := fun k hk => Below.heap_alloc W _ k hk
  have B0 : Below w.heap.size w (W.alloc (.map #[] 0)) := below_alloc HB _
  rw [s2] at hmk h0 k0
  generalize W.alloc (.map #[] 0) = W0 at hmk h0 k0 B0
  obtain ⟨W1, r1, h1, k1, B1⟩ := put_step (P := Try.prog) 100 3 99 4 (.agg #[.func (.func 70) #[] #[]]) Try.underlying100 Try.underlying3 h0 rfl
  obtain ⟨W2, r2, h2, k2, B2⟩ := put_step (P := Try.prog) 100 3 99 16 (.agg #[.func (.func 70) #[] #[]]) Try.underlying100 Try.underlying3 h1 rfl
  obtain ⟨W3, r3, h3, k3, B3⟩ := put_step (P := Try.prog) 100 3 99 32 (.agg #[.func (.func 71) #[] #[]]) Try.underlying100 Try.underlying3 h2 rfl
  obtain ⟨W4, r4, h4, k4, B4⟩ := put_step (P := Try.prog) 100 3 99 64 (.agg #[.func (.func 70) #[] #[]]) Try.underlying100 Try.underlying3 h3 rfl
  obtain ⟨W5, r5, h5, k5, B5⟩ := put_step (P := Try.prog) 100 3 99 128 (.agg #[.func (.func 71) #[] #[]]) Try.underlying100 Try.underlying3 h4 rfl
  obtain ⟨W6, r6, h6, k6, B6⟩ := put_step (P := Try.prog) 100 3 99 256 (.agg #[.func (.func 70) #[] #[]]) Try.underlying100 Try.underlying3 h5 rfl
  have HB6 := Aside0.mk (B6 _ _ (B5 _ _ (B4 _ _ (B3 _ _ (B2 _ _ (B1 _ _ B0 (by omega)) (by omega)) (by omega)) (by omega)) (by omega)) (by omega))
  have HM6 := Aside0.mk h6
  have a0 := (k0 _ (by omega)).trans q1
  have b0 := (k0 _ (by omega)).trans q2
  have a1 := (k1 _ (by omega)).trans a0
  have b1 := (k1 _ (by omega)).trans b0
  have a2 := (k2 _ (by omega)).trans a1
  have b2 := (k2 _ (by omega)).trans b1
  have a3 := (k3 _ (by omega)).trans a2
  have b3 := (k3 _ (by omega)).trans b2
  have a4 := (k4 _ (by omega)).trans a3
  have b4 := (k4 _ (by omega)).trans b3
  have a5 := (k5 _ (by omega)).trans a4
  have za0 := (blk_cell a0 0).trans (rfl : _ = some (Value.func (Fn.func 70) #[] #[]))
  have za1 := (blk_cell a1 0).trans (rfl : _ = some (Value.func (Fn.func 70) #[] #[]))
  have zb2 := (blk_cell b2 0).trans (rfl : _ = some (Value.func (Fn.func 71) #[] #[]))
  have za3 := (blk_cell a3 0).trans (rfl : _ = some (Value.func (Fn.func 70) #[] #[]))
  have zb4 := (blk_cell b4 0).trans (rfl : _ = some (Value.func (Fn.func 71) #[] #[]))
  have za5 := (blk_cell a5 0).trans (rfl : _ = some (Value.func (Fn.func 70) #[] #[]))
  clear h0 h1 h2 h3 h4 h5 h6 k0 k1 k2 k3 k4 k5 k6 B0 B1 B2 B3 B4 B5 B6 a0 b0 a1 b1 a2 b2 a3 b3 a4 b4 a5 q1 q2 s2 s1 HB
  go_wp2
  go_ret
  exact ⟨_, rfl, HB6.out, HM6.out⟩
theorem look_way {w : World} {m : Nat} (hb : w.heap[m]? = some (.map wayEntries 6)) {size : Int} {i fn : Nat} (hf : Instr.findNow (.int .i64) (.int .i64 size) wayEntries.toList 0 = some (some (i, .agg #[.func (.func fn) #[] #[]]))) :
    (Instr.lookup 100 (.map (some m)) (.int .i64 size) false).run Try.prog w = .ok (.agg #[.func (.func fn) #[] #[]]) w := by
  have hk : Try.prog.underlying 3 = some (.int .i64) := Try.underlying3
  have hm : Try.prog.underlying 100 = some (.map 3 99) := Try.underlying100
  have hc : (Instr.checkKey wayEntries.isEmpty 10000 3 (.int .i64 size)).run Try.prog w = .ok () w := MapKept.run_checkKey (k := .int .i64 size) hk (by simp [MapKept.IsKey]) _ 9999
  simp [Instr.lookup, run_underlying hm, MapKept.run_getObj_map hb, hc, MapKept.run_findKey hk hf, Result.andThen]
/-- which way is a size's -/
def wayOf (size : Int) : Option Nat := if size = 32 ∨ size = 128 then some 71 else if size = 4 ∨ size = 16 ∨ size = 64 ∨ size = 256 then some 70 else none
set_option maxRecDepth 100000 in
theorem look_of {w : World} {m : Nat} (hb : w.heap[m]? = some (.map wayEntries 6)) {size : Int} {fn : Nat} (h : wayOf size = some fn) :
    (Instr.lookup 100 (.map (some m)) (.int .i64 size) false).run Try.prog w = .ok (.agg #[.func (.func fn) #[] #[]]) w := by
  unfold wayOf at h
  by_cases c1 : size = 32 ∨ size = 128
  · rw [if_pos c1] at h
    injection h with h
    subst h
    rcases c1 with rfl | rfl
    · exact look_way hb (i := 2) rfl
    · exact look_way hb (i := 4) rfl
  · rw [if_neg c1] at h
    by_cases c2 : size = 4 ∨ size = 16 ∨ size = 64 ∨ size = 256
    · rw [if_pos c2] at h
      injection h with h
      subst h
      rcases c2 with rfl | rfl | rfl | rfl
      · exact look_way hb (i := 0) rfl
      · exact look_way hb (i := 1) rfl
      · exact look_way hb (i := 3) rfl
      · exact look_way hb (i := 5) rfl
    · rw [if_neg c2] at h
      cases h
theorem wayOf_two {size : Int} {fn : Nat} (h : wayOf size = some fn) : (fn = 71 ∧ (size = 32 ∨ size = 128)) ∨ (fn = 70 ∧ ¬ (size = 32 ∨ size = 128)) := by
  unfold wayOf at h
  by_cases c1 : size = 32 ∨ size = 128
  · rw [if_pos c1] at h
    injection h with h
    exact .inl ⟨h.symm, c1⟩
  · rw [if_neg c1] at h
    by_cases c2 : size = 4 ∨ size = 16 ∨ size = 64 ∨ size = 256
    · rw [if_pos c2] at h
      injection h with h
      exact .inr ⟨h.symm, c1⟩
    · rw [if_neg c2] at h
      cases h
end Go.Proofs.Ytgfbejlggakkhaa.Hand
