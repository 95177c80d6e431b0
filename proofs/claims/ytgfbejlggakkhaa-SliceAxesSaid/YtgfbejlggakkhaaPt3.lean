/-
  The constellations: a set's edge; a point by its label.
-/
import Derived.Test.YtgfbejlggakkhaaPt1
namespace Go.Proofs.Ytgfbejlggakkhaa.Hand
open Go.RowKit Go.Proofs.Ytgfbejlggakkhaa.Q Go.Proofs.YtgfbejlggakkhaaW.PrintWords Go.Proofs.YtgfbejlggakkhaaW.PrintLast Go.Proofs.YtgfbejlggakkhaaW.PrintMore
set_option linter.unusedVariables false
attribute [local go_sem] vres_some fres_some cres_some ires_some run_store_float run_store_complex

def edgeF (size : Int) : Int × Int :=
  match setF size with
  | none => (0, 1)
  | some (_, e, _) => (e, 0)
def atF (size label : Int) : Option ((Nat × Nat) × Int) :=
  match setF size with
  | none => some ((0, 0), 1)
  | some (_, _, pt) => if label < 0 then some ((0, 0), 1) else if label ≥ size then some ((0, 0), 1) else (pt label).map fun p => (p, 0)
set_option maxHeartbeats 4000000 in
set_option maxRecDepth 100000 in
theorem edge_calls (size : Int) (r1 r2 : Int) (w : World) (h : some (edgeF size) = some (r1, r2)) :
    Calls Try.prog 38 #[.int .i64 size] w fun e w' => e = .returned (.tuple #[.int .i64 r1, .int .i64 r2]) ∧ Below w.heap.size w w' := by
  have h := Option.some.inj h
  unfold edgeF at h
  cases hs : setF size with
  | none =>
    rw [hs] at h
    obtain ⟨rfl, rfl⟩ := Prod.mk.inj h
    go_enter Try.func38, Try.ntmps38
    go_wp2_with ((with_reducible refine gate_callee (f := 56) rfl ?_); refine goesL_ (some 8) rfl rfl Try.func56 (by kernel_rfl) rfl #[.int .i64 size] rfl (by (try simp only [List.map_toArray, List.map_cons, List.map_nil]); first | done | rfl) ?_; (with_reducible refine (of_calls size _).mono ?_); rintro e w' ⟨v, ok, rfl, hb, hn, _⟩; obtain ⟨rfl, rfl⟩ := hn hs; refine ⟨_, rfl, ?_⟩)
    go_ret2
    exact ⟨rfl, below_step hb (below_alloc (Below.refl _ _) _)⟩
  | some q =>
    obtain ⟨b, ed, pt⟩ := q
    rw [hs] at h
    obtain ⟨rfl, rfl⟩ := Prod.mk.inj h
    go_enter Try.func38, Try.ntmps38
    go_upto_region 4 with ((with_reducible refine gate_callee (f := 56) rfl ?_); refine goesL_ (some 8) rfl rfl Try.func56 (by kernel_rfl) rfl #[.int .i64 size] rfl (by (try simp only [List.map_toArray, List.map_cons, List.map_nil]); first | done | rfl) ?_; (with_reducible refine (of_calls size _).mono ?_); rintro e w' ⟨v, ok, rfl, hb, _, hS⟩; obtain ⟨rfl, fn, g1, g2, g3, rfl, hf, hgs, hC⟩ := hS b ed pt hs; refine ⟨_, rfl, ?_⟩)
    have q5 := heap_alloc_new w' (Obj.cells #[Value.int IntKind.i64 b, Value.int IntKind.i64 ed, Value.func (Fn.func fn) #[] #[Value.pointer (some { block := g1, off := 0 }), Value.pointer (some { block := g2, off := 0 })]] 88)
    have z1 := (blk_cell q5 1).trans (rfl : _ = some (Value.int .i64 ed))
    go_wp2
    go_ret2
    exact ⟨rfl, below_step hb (below_alloc (Below.refl _ _) _)⟩
set_option maxHeartbeats 4000000 in
set_option maxRecDepth 100000 in
theorem at_calls (size label : Int) (r1 : Nat × Nat) (r2 : Int) (w : World) (h : atF size label = some (r1, r2)) :
    Calls Try.prog 42 #[.int .i64 size, .int .i64 label] w fun e w' => e = .returned (.tuple #[.complex .f64 r1.1 r1.2, .int .i64 r2]) ∧ Below w.heap.size w w' := by
  unfold atF at h
  cases hs : setF size with
  | none =>
    rw [hs] at h
    obtain ⟨rfl, rfl⟩ := Prod.mk.inj (Option.some.inj h)
    go_enter Try.func42, Try.ntmps42
    go_wp2_with ((with_reducible refine gate_callee (f := 56) rfl ?_); refine goesL_ (some 10) rfl rfl Try.func56 (by kernel_rfl) rfl #[.int .i64 size] rfl (by (try simp only [List.map_toArray, List.map_cons, List.map_nil]); first | done | rfl) ?_; (with_reducible refine (of_calls size _).mono ?_); rintro e w' ⟨v, ok, rfl, hb, hn, _⟩; obtain ⟨rfl, rfl⟩ := hn hs; refine ⟨_, rfl, ?_⟩)
    go_ret2
    exact ⟨rfl, below_step hb (below_alloc (Below.refl _ _) _)⟩
  | some q =>
    obtain ⟨b, ed, pt⟩ := q
    rw [hs] at h
    by_cases c1 : label < 0
    · simp only [if_pos c1] at h
      obtain ⟨rfl, rfl⟩ := Prod.mk.inj (Option.some.inj h)
      have c1b : decide (label < 0) = true := decide_eq_true c1
      clear c1
      go_enter Try.func42, Try.ntmps42
      go_wp2_with ((with_reducible refine gate_callee (f := 56) rfl ?_); refine goesL_ (some 10) rfl rfl Try.func56 (by kernel_rfl) rfl #[.int .i64 size] rfl (by (try simp only [List.map_toArray, List.map_cons, List.map_nil]); first | done | rfl) ?_; (with_reducible refine (of_calls size _).mono ?_); rintro e w' ⟨v, ok, rfl, hb, _, hS⟩; obtain ⟨rfl, fn, g1, g2, g3, rfl, hf, hgs, hC⟩ := hS b ed pt hs; refine ⟨_, rfl, ?_⟩)
      go_ret2
      exact ⟨rfl, below_step hb (below_alloc (Below.refl _ _) _)⟩
    · simp only [if_neg c1] at h
      have c1b : decide (label < 0) = false := decide_eq_false c1
      by_cases c2 : label ≥ size
      · simp only [if_pos c2] at h
        obtain ⟨rfl, rfl⟩ := Prod.mk.inj (Option.some.inj h)
        have c2b : decide (size ≤ label) = true := decide_eq_true c2
        clear c1 c2
        go_enter Try.func42, Try.ntmps42
        go_wp2_with ((with_reducible refine gate_callee (f := 56) rfl ?_); refine goesL_ (some 10) rfl rfl Try.func56 (by kernel_rfl) rfl #[.int .i64 size] rfl (by (try simp only [List.map_toArray, List.map_cons, List.map_nil]); first | done | rfl) ?_; (with_reducible refine (of_calls size _).mono ?_); rintro e w' ⟨v, ok, rfl, hb, _, hS⟩; obtain ⟨rfl, fn, g1, g2, g3, rfl, hf, hgs, hC⟩ := hS b ed pt hs; refine ⟨_, rfl, ?_⟩)
        go_ret2
        exact ⟨rfl, below_step hb (below_alloc (Below.refl _ _) _)⟩
      · simp only [if_neg c2] at h
        obtain ⟨p, hp, h⟩ := Option.map_eq_some_iff.mp h
        obtain ⟨rfl, rfl⟩ := Prod.mk.inj h
        have c2b : decide (size ≤ label) = false := decide_eq_false c2
        clear c1 c2
        have HP := Aside0.mk hp
        clear hp
        go_enter Try.func42, Try.ntmps42
        go_upto_region 4 with ((with_reducible refine gate_callee (f := 56) rfl ?_); refine goesL_ (some 10) rfl rfl Try.func56 (by kernel_rfl) rfl #[.int .i64 size] rfl (by (try simp only [List.map_toArray, List.map_cons, List.map_nil]); first | done | rfl) ?_; (with_reducible refine (of_calls size _).mono ?_); rintro e w' ⟨v, ok, rfl, hb, _, hS⟩; obtain ⟨rfl, fn, g1, g2, g3, rfl, hf, hgs, hC⟩ := hS b ed pt hs; refine ⟨_, rfl, ?_⟩)
        have q5 := heap_alloc_new w' (Obj.cells #[Value.int IntKind.i64 b, Value.int IntKind.i64 ed, Value.func (Fn.func fn) #[] #[Value.pointer (some { block := g1, off := 0 }), Value.pointer (some { block := g2, off := 0 })]] 88)
        have z2 := (blk_cell q5 2).trans (rfl : _ = some (Value.func (Fn.func fn) #[] #[Value.pointer (some { block := g1, off := 0 }), Value.pointer (some { block := g2, off := 0 })]))
        have B5 : Below w.heap.size w (w'.alloc (Obj.cells #[Value.int IntKind.i64 b, Value.int IntKind.i64 ed, Value.func (Fn.func fn) #[] #[Value.pointer (some { block := g1, off := 0 }), Value.pointer (some { block := g2, off := 0 })]] 88)) := below_step hb (below_alloc (Below.refl _ _) _)
        have C5 := hC (w'.alloc (Obj.cells #[Value.int IntKind.i64 b, Value.int IntKind.i64 ed, Value.func (Fn.func fn) #[] #[Value.pointer (some { block := g1, off := 0 }), Value.pointer (some { block := g2, off := 0 })]] 88)) (fun g hg => (below_alloc (Below.refl _ _) _).block g (hgs g hg).2) label p HP.out
        have E5 := Aside0.mk C5
        have D5 := Aside0.mk B5
        clear hC hgs C5 B5 q5
        generalize (w'.alloc (Obj.cells #[Value.int IntKind.i64 b, Value.int IntKind.i64 ed, Value.func (Fn.func fn) #[] #[Value.pointer (some { block := g1, off := 0 }), Value.pointer (some { block := g2, off := 0 })]] 88)) = W5 at z2 E5 D5 ⊢
        rcases hf with rfl | rfl
        · go_wp2_with ((go_at_call 79; refine Calls.mono E5.out ?_; rintro e w'' ⟨rfl, ⟨nd, rfl⟩⟩))
          go_ret2
          exact ⟨rfl, pw_below_drewN D5.out nd⟩
        · go_wp2_with ((go_at_call 80; refine Calls.mono E5.out ?_; rintro e w'' ⟨rfl, ⟨nd, rfl⟩⟩))
          go_ret2
          exact ⟨rfl, pw_below_drewN D5.out nd⟩
end Go.Proofs.Ytgfbejlggakkhaa.Hand
