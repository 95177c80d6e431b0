/-
  How a number is decided: slice.decide walked.
-/
import Derived.Test.YtgfbejlggakkhaaDc0
import Derived.Test.YtgfbejlggakkhaaPt1
import Derived.Test.YtgfbejlggakkhaaQx11
import Derived.Test.YtgfbejlggakkhaaQx11
import Derived.Test.YtgfbejlggakkhaaQx5
import Derived.Test.YtgfbejlggakkhaaQx2
namespace Go.Proofs.Ytgfbejlggakkhaa.Hand
open Go.RowKit Go.Proofs.Ytgfbejlggakkhaa.Q Go.Proofs.YtgfbejlggakkhaaW.PrintWords Go.Proofs.YtgfbejlggakkhaaW.PrintLast Go.Proofs.YtgfbejlggakkhaaW.PrintMore
set_option linter.unusedVariables false
attribute [local go_sem] vres_some fres_some cres_some ires_some run_store_float run_store_complex

def decideF (k : Nat) (size edge : Int) (z : Nat × Nat) : Option (Int × (Nat × Nat) × Bool) :=
  (slice_nan.f z).bind fun b1 => if b1 = true then some (0, (0, 0), true) else (math_IsInf.f z.1 0).bind fun b2 => if b2 = true then some (0, (0, 0), true) else (math_IsInf.f z.2 0).bind fun b3 => if b3 = true then some (0, (0, 0), true) else
    match wayOf size with
    | none => none
    | some fn => if fn = 71 then slice_nearest.f k size edge z else slice_axes.f k size edge z
theorem decideF_mono (size edge : Int) (z : Nat × Nat) (k : Nat) : LeO (decideF k size edge z) (decideF (k + 1) size edge z) := by
  unfold decideF
  refine LeO.bind (LeO.refl _) (fun _ => LeO.ite (LeO.refl _) (LeO.bind (LeO.refl _) (fun _ => LeO.ite (LeO.refl _) (LeO.bind (LeO.refl _) (fun _ => LeO.ite (LeO.refl _) ?_)))))
  cases wayOf size with
  | none => exact LeO.refl _
  | some fn => exact LeO.ite (slice_nearest.mono _ _ _ _) (slice_axes.mono _ _ _ _)
theorem way_of (fn : Nat) (w : World) : (Instr.field 99 (.agg #[.func (.func fn) #[] #[]]) 0).run Try.prog w = .ok (.func (.func fn) #[] #[]) w := by kernel_rfl
set_option maxHeartbeats 8000000 in
set_option maxRecDepth 100000 in
theorem decide_calls (k : Nat) (size edge : Int) (z : Nat × Nat) (r1 : Int) (r2 : Nat × Nat) (r3 : Bool) (w : World) (h : decideF k size edge z = some (r1, r2, r3)) :
    Calls Try.prog 47 #[.int .i64 size, .int .i64 edge, .complex .f64 z.1 z.2] w fun e w' => e = .returned (.agg #[.int .i64 r1, .complex .f64 r2.1 r2.2, .bool r3]) ∧ Below w.heap.size w w' := by
  have hu99 := Try.underlying99
  have hu38 := Try.underlying38
  unfold decideF at h
  obtain ⟨b1, A1, h⟩ := Option.bind_eq_some_iff.mp h
  have A1 := Aside0.mk A1
  have hq0 := heap_alloc_new w (Obj.cells #[Value.int IntKind.i64 0, Value.complex FloatKind.f64 0 0, Value.bool false] 38)
  cases b1 with
  | true =>
    simp only [if_true] at h
    simp only [Option.some.injEq, Prod.mk.injEq] at h
    obtain ⟨rfl, rfl, rfl⟩ := h
    go_enter Try.func47, Try.ntmps47
    go_wp2_with (first | ((with_reducible refine gate_callee (f := 39) rfl ?_); refine goesL_ (some 8) rfl rfl Try.func39 (by kernel_rfl) rfl #[.complex .f64 z.1 z.2] rfl (by (try simp only [List.map_toArray, List.map_cons, List.map_nil]); first | done | rfl) ?_; (with_reducible refine (slice_nan.calls z true _ A1.out).mono ?_); rintro e w' ⟨rfl, hb⟩; have HB := Aside0.mk (below_step (below_alloc (Below.refl w.heap.size w) _) hb); have hq := blk_below hq0 hb; have z0 := (blk_cell hq 0).trans (rfl : _ = some (Value.int .i64 0)); have z1 := (blk_cell hq 1).trans (rfl : _ = some (Value.complex .f64 0 0)); have z2 := (blk_cell hq 2).trans (rfl : _ = some (Value.bool false)); have f0 := free_of hq 0; have f1 := free_of hq 1; have f2 := free_of hq 2; clear hb; refine ⟨_, rfl, ?_⟩))
    refine bodyPost_ret (results_single rfl (.cell _ 38 _ (0, 0) _ rfl (put3 hq _ _ _) Try.underlying38 rfl (by kernel_rfl) .nil)) rfl ?_
    exact ⟨rfl, ((HB.out.setCell (Nat.le_refl _) _).setCell (Nat.le_refl _) _).setCell (Nat.le_refl _) _⟩
  | false =>
    simp only [Bool.false_eq_true, if_false] at h
    obtain ⟨b2, A2, h⟩ := Option.bind_eq_some_iff.mp h
    have A2 := Aside0.mk A2
    cases b2 with
    | true =>
      simp only [if_true] at h
      simp only [Option.some.injEq, Prod.mk.injEq] at h
      obtain ⟨rfl, rfl, rfl⟩ := h
      go_enter Try.func47, Try.ntmps47
      go_wp2_with (first | ((with_reducible refine gate_callee (f := 39) rfl ?_); refine goesL_ (some 8) rfl rfl Try.func39 (by kernel_rfl) rfl #[.complex .f64 z.1 z.2] rfl (by (try simp only [List.map_toArray, List.map_cons, List.map_nil]); first | done | rfl) ?_; (with_reducible refine (slice_nan.calls z false _ A1.out).mono ?_); rintro e w' ⟨rfl, hb⟩; have HB := Aside0.mk (below_step (below_alloc (Below.refl w.heap.size w) _) hb); have hq := blk_below hq0 hb; have z0 := (blk_cell hq 0).trans (rfl : _ = some (Value.int .i64 0)); have z1 := (blk_cell hq 1).trans (rfl : _ = some (Value.complex .f64 0 0)); have z2 := (blk_cell hq 2).trans (rfl : _ = some (Value.bool false)); have f0 := free_of hq 0; have f1 := free_of hq 1; have f2 := free_of hq 2; clear hb; refine ⟨_, rfl, ?_⟩) | (go_at_call 59; (with_reducible refine (math_IsInf.calls z.1 0 true _ A2.out).mono ?_); rintro e w' ⟨rfl, ⟨nd2, rfl⟩⟩))
      refine bodyPost_ret (results_single rfl (.cell _ 38 _ (0, 0) _ rfl (put3 (W := World.drewN _ _) hq _ _ _) Try.underlying38 rfl (by kernel_rfl) .nil)) rfl ?_
      exact ⟨rfl, (((pw_below_drewN HB.out _).setCell (Nat.le_refl _) _).setCell (Nat.le_refl _) _).setCell (Nat.le_refl _) _⟩
    | false =>
      simp only [Bool.false_eq_true, if_false] at h
      obtain ⟨b3, A3, h⟩ := Option.bind_eq_some_iff.mp h
      have A3 := Aside0.mk A3
      cases b3 with
      | true =>
        simp only [if_true] at h
        simp only [Option.some.injEq, Prod.mk.injEq] at h
        obtain ⟨rfl, rfl, rfl⟩ := h
        go_enter Try.func47, Try.ntmps47
        go_wp2_with (first | ((with_reducible refine gate_callee (f := 39) rfl ?_); refine goesL_ (some 8) rfl rfl Try.func39 (by kernel_rfl) rfl #[.complex .f64 z.1 z.2] rfl (by (try simp only [List.map_toArray, List.map_cons, List.map_nil]); first | done | rfl) ?_; (with_reducible refine (slice_nan.calls z false _ A1.out).mono ?_); rintro e w' ⟨rfl, hb⟩; have HB := Aside0.mk (below_step (below_alloc (Below.refl w.heap.size w) _) hb); have hq := blk_below hq0 hb; have z0 := (blk_cell hq 0).trans (rfl : _ = some (Value.int .i64 0)); have z1 := (blk_cell hq 1).trans (rfl : _ = some (Value.complex .f64 0 0)); have z2 := (blk_cell hq 2).trans (rfl : _ = some (Value.bool false)); have f0 := free_of hq 0; have f1 := free_of hq 1; have f2 := free_of hq 2; clear hb; refine ⟨_, rfl, ?_⟩) | (go_at_call 59; (with_reducible refine (math_IsInf.calls z.1 0 false _ A2.out).mono ?_); rintro e w' ⟨rfl, ⟨nd2, rfl⟩⟩) | (go_at_call 59; (with_reducible refine (math_IsInf.calls z.2 0 true _ A3.out).mono ?_); rintro e w' ⟨rfl, ⟨nd3, rfl⟩⟩))
        refine bodyPost_ret (results_single rfl (.cell _ 38 _ (0, 0) _ rfl (put3 (W := World.drewN _ _) hq _ _ _) Try.underlying38 rfl (by kernel_rfl) .nil)) rfl ?_
        exact ⟨rfl, (((pw_below_drewN HB.out _).setCell (Nat.le_refl _) _).setCell (Nat.le_refl _) _).setCell (Nat.le_refl _) _⟩
      | false =>
        simp only [Bool.false_eq_true, if_false] at h
        cases hw : wayOf size with
        | none => rw [hw] at h; cases h
        | some fn =>
          rw [hw] at h
          have hfn := wayOf_two hw
          have HW := Aside0.mk hw
          clear hw
          simp only at h
          rcases hfn with ⟨hfn, _⟩ | ⟨hfn, _⟩
          · skip
            subst hfn
            rw [if_pos rfl] at h
            have HC := Aside0.mk h
            clear h
            go_enter Try.func47, Try.ntmps47
            go_wp2_with (first | ((with_reducible refine gate_callee (f := 39) rfl ?_); refine goesL_ (some 8) rfl rfl Try.func39 (by kernel_rfl) rfl #[.complex .f64 z.1 z.2] rfl (by (try simp only [List.map_toArray, List.map_cons, List.map_nil]); first | done | rfl) ?_; (with_reducible refine (slice_nan.calls z false _ A1.out).mono ?_); rintro e w' ⟨rfl, hb⟩; have HB := Aside0.mk (below_step (below_alloc (Below.refl w.heap.size w) _) hb); have hq := blk_below hq0 hb; have z0 := (blk_cell hq 0).trans (rfl : _ = some (Value.int .i64 0)); have z1 := (blk_cell hq 1).trans (rfl : _ = some (Value.complex .f64 0 0)); have z2 := (blk_cell hq 2).trans (rfl : _ = some (Value.bool false)); have f0 := free_of hq 0; have f1 := free_of hq 1; have f2 := free_of hq 2; clear hb; refine ⟨_, rfl, ?_⟩) | (go_at_call 59; (with_reducible refine (math_IsInf.calls z.1 0 false _ A2.out).mono ?_); rintro e w' ⟨rfl, ⟨nd2, rfl⟩⟩) | (go_at_call 59; (with_reducible refine (math_IsInf.calls z.2 0 false _ A3.out).mono ?_); rintro e w' ⟨rfl, ⟨nd3, rfl⟩⟩))
            refine (ways_calls _).mono ?_
            rintro e w2 ⟨m, rfl, hb2, hm2⟩
            have L2 := look_of hm2 HW.out
            have L3 := way_of 71 w2
            have HB2 := Aside0.mk (below_step (pw_below_drewN HB.out _) hb2)
            have hq2 := blk_below (w := World.drewN _ _) hq hb2
            clear hb2 hm2 z0 z1 z2 f0 f1 f2 hq
            go_wp2_with ((go_at_call 71; (with_reducible refine (slice_nearest.calls k size edge z r1 r2 r3 _ HC.out).mono ?_); rintro e w3 ⟨rfl, hb3⟩; have HB3 := Aside0.mk (below_step HB2.out hb3); have hq3 := blk_below hq2 hb3; have y0 := (blk_cell hq3 0).trans (rfl : _ = some (Value.int .i64 0)); have y1 := (blk_cell hq3 1).trans (rfl : _ = some (Value.complex .f64 0 0)); have y2 := (blk_cell hq3 2).trans (rfl : _ = some (Value.bool false)); have x0 := free_of hq3 0; have x1 := free_of hq3 1; have x2 := free_of hq3 2; clear hb3))
            refine bodyPost_ret (results_single rfl (.cell _ 38 _ (0, 0) _ rfl (put3 hq3 _ _ _) Try.underlying38 rfl (by kernel_rfl) .nil)) rfl ?_
            exact ⟨rfl, ((HB3.out.setCell (Nat.le_refl _) _).setCell (Nat.le_refl _) _).setCell (Nat.le_refl _) _⟩
          · skip
            subst hfn
            rw [if_neg (by decide)] at h
            have HC := Aside0.mk h
            clear h
            go_enter Try.func47, Try.ntmps47
            go_wp2_with (first | ((with_reducible refine gate_callee (f := 39) rfl ?_); refine goesL_ (some 8) rfl rfl Try.func39 (by kernel_rfl) rfl #[.complex .f64 z.1 z.2] rfl (by (try simp only [List.map_toArray, List.map_cons, List.map_nil]); first | done | rfl) ?_; (with_reducible refine (slice_nan.calls z false _ A1.out).mono ?_); rintro e w' ⟨rfl, hb⟩; have HB := Aside0.mk (below_step (below_alloc (Below.refl w.heap.size w) _) hb); have hq := blk_below hq0 hb; have z0 := (blk_cell hq 0).trans (rfl : _ = some (Value.int .i64 0)); have z1 := (blk_cell hq 1).trans (rfl : _ = some (Value.complex .f64 0 0)); have z2 := (blk_cell hq 2).trans (rfl : _ = some (Value.bool false)); have f0 := free_of hq 0; have f1 := free_of hq 1; have f2 := free_of hq 2; clear hb; refine ⟨_, rfl, ?_⟩) | (go_at_call 59; (with_reducible refine (math_IsInf.calls z.1 0 false _ A2.out).mono ?_); rintro e w' ⟨rfl, ⟨nd2, rfl⟩⟩) | (go_at_call 59; (with_reducible refine (math_IsInf.calls z.2 0 false _ A3.out).mono ?_); rintro e w' ⟨rfl, ⟨nd3, rfl⟩⟩))
            refine (ways_calls _).mono ?_
            rintro e w2 ⟨m, rfl, hb2, hm2⟩
            have L2 := look_of hm2 HW.out
            have L3 := way_of 70 w2
            have HB2 := Aside0.mk (below_step (pw_below_drewN HB.out _) hb2)
            have hq2 := blk_below (w := World.drewN _ _) hq hb2
            clear hb2 hm2 z0 z1 z2 f0 f1 f2 hq
            go_wp2_with ((go_at_call 70; (with_reducible refine (slice_axes.calls k size edge z r1 r2 r3 _ HC.out).mono ?_); rintro e w3 ⟨rfl, hb3⟩; have HB3 := Aside0.mk (below_step HB2.out hb3); have hq3 := blk_below hq2 hb3; have y0 := (blk_cell hq3 0).trans (rfl : _ = some (Value.int .i64 0)); have y1 := (blk_cell hq3 1).trans (rfl : _ = some (Value.complex .f64 0 0)); have y2 := (blk_cell hq3 2).trans (rfl : _ = some (Value.bool false)); have x0 := free_of hq3 0; have x1 := free_of hq3 1; have x2 := free_of hq3 2; clear hb3))
            refine bodyPost_ret (results_single rfl (.cell _ 38 _ (0, 0) _ rfl (put3 hq3 _ _ _) Try.underlying38 rfl (by kernel_rfl) .nil)) rfl ?_
            exact ⟨rfl, ((HB3.out.setCell (Nat.le_refl _) _).setCell (Nat.le_refl _) _).setCell (Nat.le_refl _) _⟩
end Go.Proofs.Ytgfbejlggakkhaa.Hand
