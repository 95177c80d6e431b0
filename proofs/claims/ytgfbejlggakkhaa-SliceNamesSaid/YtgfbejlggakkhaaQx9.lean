-- by this place's own print2.py over the kit's print
import Derived.Test.YtgfbejlggakkhaaQx0
import Derived.Test.YtgfbejlggakkhaaQx7
import Derived.Test.YtgfbejlggakkhaaFin
namespace Go.Proofs.Ytgfbejlggakkhaa.Q
open Go.RowKit Go.Proofs.YtgfbejlggakkhaaW.PrintWords Go.Proofs.YtgfbejlggakkhaaW.PrintLast Go.Proofs.YtgfbejlggakkhaaW.PrintMore
attribute [local go_sem] vres_some fres_some cres_some ires_some run_f_add run_f_sub run_f_mul run_f_quo run_c_add run_c_sub run_f_int run_f_same unary_f_neg run_max2_f run_min2_f run_store_float run_store_complex ext_Float64bits ext_Float64frombits ext_archFloor ext_archCeil ext_archTrunc ext_archMax ext_archMin max2_int min2_int max_two min_two max_three min_three max_four min_four   -- for this text's walks alone
set_option linter.unusedVariables false
set_option linter.unusedSimpArgs false

/-! ### foghornref02_Finite: function 44 -/
-- HAND Derived.Test.YtgfbejlggakkhaaFin
def foghornref02_Finite.f (a0 : Nat) : Option (Bool) := some (Hand.finF a0)
theorem foghornref02_Finite.calls (a0 : Nat) (r : Bool) (w : World) (h : foghornref02_Finite.f a0 = some r) :
    Calls Try.prog 44 #[.float .f64 a0] w fun e w' => e = .returned (.bool r) ∧ Drawn0 w w' := Hand.fin_calls a0 r w h

/-! ### foghornref04_Label: function 45 -/
def foghornref04_Label.l0 : Nat → (Nat × Nat) → List (Nat × Nat) → Int → Option (Int × Int)
  | 0, _, _, _ => none
  | k + 1, x1, x6, x8 => if x8 < (x6.length : Int) then (if 0 ≤ x8 then (if (ford ((rdOf ((0, 0) : Nat × Nat) x6 x8).1) x1.1 == some .eq && ford ((rdOf ((0, 0) : Nat × Nat) x6 x8).2) x1.2 == some .eq) = true then (some (x8, 0)) else (foghornref04_Label.l0 k x1 x6 (wrap64 (x8 + 1)))) else (none)) else (some (0, 6))
def foghornref04_Label.f (k : Nat) (a0 : Int) (a1 : (Nat × Nat)) : Option (Int × Int) := (foghornref04_All.f k a0).bind fun bt230 => (if bt230.2 = 0 then (foghornref04_Label.l0 k a1 bt230.1 0) else (some (0, bt230.2)))
theorem foghornref04_Label.mono_l : ∀ k, (∀ y0 y1 y2, LeO (foghornref04_Label.l0 k y0 y1 y2) (foghornref04_Label.l0 (k + 1) y0 y1 y2))
  | 0 => fun _ _ _ r h => by simp [foghornref04_Label.l0] at h
  | k + 1 => by
    have ih0 := foghornref04_Label.mono_l k
    · intro y0 y1 y2
      unfold foghornref04_Label.l0
      repeat' first
      | (with_reducible exact ih0 _ _ _)
      | (with_reducible exact foghornref04_All.mono _ _)
      | (with_reducible exact LeO.refl _)
      | (with_reducible exact LeO.none _)
      | (with_reducible refine LeO.ite ?_ ?_)
      | (with_reducible refine LeO.bind ?_ (fun _ => ?_))
      | exact ih0 _ _ _
      | exact foghornref04_All.mono _ _
      | exact LeO.none _
      | refine LeO.ite ?_ ?_
      | refine LeO.bind ?_ (fun _ => ?_)
theorem foghornref04_Label.mono : ∀ a0 a1 k, LeO (foghornref04_Label.f k a0 a1) (foghornref04_Label.f (k + 1) a0 a1) := by
  intro a0 a1 k
  have ih0 := foghornref04_Label.mono_l k
  unfold foghornref04_Label.f
  repeat' first
      | (with_reducible exact ih0 _ _ _)
      | (with_reducible exact foghornref04_All.mono _ _)
      | (with_reducible exact LeO.refl _)
      | (with_reducible exact LeO.none _)
      | (with_reducible refine LeO.ite ?_ ?_)
      | (with_reducible refine LeO.bind ?_ (fun _ => ?_))
      | exact ih0 _ _ _
      | exact foghornref04_All.mono _ _
      | exact LeO.none _
      | refine LeO.ite ?_ ?_
      | refine LeO.bind ?_ (fun _ => ?_)
set_option maxHeartbeats 8000000 in
set_option maxRecDepth 100000 in
theorem foghornref04_Label.calls (k : Nat) (a0 : Int) (a1 : (Nat × Nat)) (r1 : Int) (r2 : Int) (w : World) (h : foghornref04_Label.f k a0 a1 = some (r1, r2)) :
    Calls Try.prog 45 #[.int .i64 a0, .complex .f64 a1.1 a1.2] w fun e w' => e = .returned (.tuple #[.int .i64 r1, .int .i64 r2]) ∧ Below w.heap.size w w' := by
  have HB := Aside0.mk (Below.refl w.heap.size w)
  have H : ((foghornref04_All.f k a0).bind fun bt230 => (if bt230.2 = 0 then (foghornref04_Label.l0 k a1 bt230.1 0) else (some (0, bt230.2)))) = some (r1, r2) := h
  clear h
  replace H := Option.bind_eq_some_iff.mp H
  obtain ⟨⟨t230, t231⟩, A30, H⟩ := H
  replace H : (if t231 = 0 then (foghornref04_Label.l0 k a1 t230 0) else (some (0, t231))) = some (r1, r2) := H
  have A3 := Aside0.mk A30
  clear A30
  by_cases c4 : t231 = 0
  · rw [if_pos c4] at H
    have c4b0 : (t231 == 0) = true := beq_iff_eq.mpr c4
    have c4b1 : (t231 != 0) = false := bne_eq_false_iff_eq.mpr c4
    clear c4
    have H' := Aside0.mk H
    clear H
    go_enter Try.func45, Try.ntmps45
    go_wp2_with (first | ((with_reducible refine gate_callee (f := 46) rfl ?_); refine goesL_ (some 11) rfl rfl Try.func46 (by kernel_rfl) rfl #[.int .i64 a0] rfl (by (try simp only [List.map_toArray, List.map_cons, List.map_nil]); first | done | rfl | (simp only [List.length_drop, List.length_take]; rfl)) ?_; (with_reducible refine (foghornref04_All.calls k a0 t230 t231 _ A3.out).mono ?_); rintro e w5 ⟨v232, rfl, ho0, hb⟩; refine ⟨_, rfl, ?_⟩; have n0_ := Aside0.mk (Kd.R_lower ho0 (below_size (by repeat (first | (with_reducible first | exact HB.out | apply below_alloc | apply pw_below_drewN | apply below_drew1) | exact HB.out)))); have n1_ := Aside0.mk (below_step (by repeat (first | (with_reducible first | exact HB.out | apply below_alloc | apply pw_below_drewN | apply below_drew1) | exact HB.out)) hb); clear HB; have HO233 := n0_; have HB := n1_; clear n0_ n1_; (try clear hb); (try clear hb2); (try clear hk); (try clear hi); (try clear ho0)))
    (try simp only [add_off0])
    go_loopg [8] k (fun kq v8 w' => ∃ (x8_1 : Int), v8 = .int .i64 x8_1 ∧ Aside0 (foghornref04_Label.l0 kq a1 t230 x8_1 = some (r1, r2)) ∧ Aside0 (kq ≤ k) ∧ Aside0 (Kd.R Kd.c128 23 w' w.heap.size (fun _ => True) v232 t230) ∧ Aside0 (Below w.heap.size w w'))
    case atStart => exact ⟨(0), (by first | rfl | (simp; done) | (simp [*]; done)), H', ⟨Nat.le_refl _⟩, ⟨by (with_reducible repeat (first | apply Kd.R_alloc | apply Kd.R_drewN | apply Kd.R_drew)); exact HO233.out⟩, ⟨by repeat (first | (with_reducible first | exact HB.out | apply below_alloc | apply pw_below_drewN | apply below_drew1) | exact HB.out)⟩⟩
    case round =>
      clear H'
      (try clear c1); (try clear p2); (try clear c4); (try clear c4b0); (try clear c4b1)
      obtain ⟨x8_1, rfl, HA, HK1, HO_6, HB⟩ := hrel
      cases gk with
      | zero => exact absurd HA.out (by simp [foghornref04_Label.l0])
      | succ k1 =>
        have H := HA.out
        clear HA
        simp only [foghornref04_Label.l0] at H
        by_cases c6 : x8_1 < (t230.length : Int)
        · rw [if_pos c6] at H
          have c6b0 : decide (x8_1 < (t230.length : Int)) = true := decide_eq_true c6
          clear c6
          by_cases c7 : 0 ≤ x8_1
          · rw [if_pos c7] at H
            have c7b0 : decide (0 ≤ x8_1) = true := decide_eq_true c7
            clear c7
            by_cases c8 : (ford ((rdOf ((0, 0) : Nat × Nat) t230 x8_1).1) a1.1 == some .eq && ford ((rdOf ((0, 0) : Nat × Nat) t230 x8_1).2) a1.2 == some .eq) = true
            · rw [if_pos c8] at H
              have c8b0 : (ford ((rdOf ((0, 0) : Nat × Nat) t230 x8_1).1) a1.1 == some .eq && ford ((rdOf ((0, 0) : Nat × Nat) t230 x8_1).2) a1.2 == some .eq) = true := c8
              (try (have c8b1 : decide (ford ((rdOf ((0, 0) : Nat × Nat) t230 x8_1).1) a1.1 = some .eq && ford ((rdOf ((0, 0) : Nat × Nat) t230 x8_1).2) a1.2 == some .eq) = true := by simpa using c8))
              (try (have c8b2 : (ford ((rdOf ((0, 0) : Nat × Nat) t230 x8_1).1) a1.1 == some .eq && ford ((rdOf ((0, 0) : Nat × Nat) t230 x8_1).2) a1.2 == some .eq) = true := by simpa using c8))
              clear c8
              simp only [Option.some.injEq, Prod.mk.injEq] at H
              obtain ⟨rfl, rfl⟩ := H
              obtain ⟨Ao9, co9, eo9⟩ := Kd.R_slice HO_6.out
              subst eo9
              have p234 : 0 ≤ (x8_1 : Int) := of_decide_eq_true (by first | (with_reducible assumption) | assumption)
              have q234 : x8_1 < (t230.length : Int) := of_decide_eq_true (by first | (with_reducible assumption) | assumption)
              obtain ⟨ad234, e234, hx234_0⟩ := Kd.at_c128 (Kd.R_reads' HO_6.out).2.2 x8_1 p234 q234
              cases e234
              replace p234 := eq_true p234
              replace q234 := eq_true q234
              go_wp2
              go_ret2
              exact ⟨by first | rfl | (simp [errW_none, errW_some] <;> rfl) | (simp [*, errW_none, errW_some] <;> rfl), by repeat (first | (with_reducible first | exact HB.out | apply below_alloc | apply pw_below_drewN | apply below_drew1) | exact HB.out)⟩
            · rw [if_neg c8] at H
              have c8b0 : (ford ((rdOf ((0, 0) : Nat × Nat) t230 x8_1).1) a1.1 == some .eq && ford ((rdOf ((0, 0) : Nat × Nat) t230 x8_1).2) a1.2 == some .eq) = false := by simpa using c8
              (try (have c8b1 : decide (ford ((rdOf ((0, 0) : Nat × Nat) t230 x8_1).1) a1.1 = some .eq && ford ((rdOf ((0, 0) : Nat × Nat) t230 x8_1).2) a1.2 == some .eq) = false := by simpa using c8))
              (try (have c8b2 : (ford ((rdOf ((0, 0) : Nat × Nat) t230 x8_1).1) a1.1 == some .eq && ford ((rdOf ((0, 0) : Nat × Nat) t230 x8_1).2) a1.2 == some .eq) = false := by simpa using c8))
              (try (have c8b3 : ¬ (ford ((rdOf ((0, 0) : Nat × Nat) t230 x8_1).1) a1.1 = some .eq && ford ((rdOf ((0, 0) : Nat × Nat) t230 x8_1).2) a1.2 == some .eq) := by simpa using c8))
              clear c8
              have H' := Aside0.mk H
              clear H
              obtain ⟨Ao10, co10, eo10⟩ := Kd.R_slice HO_6.out
              subst eo10
              have p234 : 0 ≤ (x8_1 : Int) := of_decide_eq_true (by first | (with_reducible assumption) | assumption)
              have q234 : x8_1 < (t230.length : Int) := of_decide_eq_true (by first | (with_reducible assumption) | assumption)
              obtain ⟨ad234, e234, hx234_0⟩ := Kd.at_c128 (Kd.R_reads' HO_6.out).2.2 x8_1 p234 q234
              cases e234
              replace p234 := eq_true p234
              replace q234 := eq_true q234
              go_wp2
              refine Handed.intro k1 ?measure ?_
              rotate_left
              go_step
              (try simp only [add_off0])
              (repeat apply Exists.intro)
              refine ⟨?rel, rfl⟩
              case measure => have := HK1.out; omega
              case rel => exact ⟨(wrap64 (x8_1 + 1)), (by first | rfl | (simp; done) | (simp [*]; done)), H', ⟨by have := HK1.out; omega⟩, ⟨by (with_reducible repeat (first | apply Kd.R_alloc | apply Kd.R_drewN | apply Kd.R_drew)); exact HO_6.out⟩, ⟨by repeat (first | (with_reducible first | exact HB.out | apply below_alloc | apply pw_below_drewN | apply below_drew1) | exact HB.out)⟩⟩
          · rw [if_neg c7] at H
            exact absurd H (by simp)
        · rw [if_neg c6] at H
          have c6b0 : decide (x8_1 < (t230.length : Int)) = false := decide_eq_false c6
          clear c6
          simp only [Option.some.injEq, Prod.mk.injEq] at H
          obtain ⟨rfl, rfl⟩ := H
          obtain ⟨Ao11, co11, eo11⟩ := Kd.R_slice HO_6.out
          subst eo11
          go_wp2
          go_ret2
          exact ⟨by first | rfl | (simp [errW_none, errW_some] <;> rfl) | (simp [*, errW_none, errW_some] <;> rfl), by repeat (first | (with_reducible first | exact HB.out | apply below_alloc | apply pw_below_drewN | apply below_drew1) | exact HB.out)⟩
  · rw [if_neg c4] at H
    have c4b0 : (t231 == 0) = false := beq_eq_false_iff_ne.mpr c4
    have c4b1 : (t231 != 0) = true := bne_iff_ne.mpr c4
    simp only [Option.some.injEq, Prod.mk.injEq] at H
    obtain ⟨rfl, rfl⟩ := H
    go_enter Try.func45, Try.ntmps45
    go_wp2_with (first | ((with_reducible refine gate_callee (f := 46) rfl ?_); refine goesL_ (some 11) rfl rfl Try.func46 (by kernel_rfl) rfl #[.int .i64 a0] rfl (by (try simp only [List.map_toArray, List.map_cons, List.map_nil]); first | done | rfl | (simp only [List.length_drop, List.length_take]; rfl)) ?_; (with_reducible refine (foghornref04_All.calls k a0 t230 t231 _ A3.out).mono ?_); rintro e w12 ⟨v232, rfl, ho0, hb⟩; refine ⟨_, rfl, ?_⟩; have n0_ := Aside0.mk (Kd.R_lower ho0 (below_size (by repeat (first | (with_reducible first | exact HB.out | apply below_alloc | apply pw_below_drewN | apply below_drew1) | exact HB.out)))); have n1_ := Aside0.mk (below_step (by repeat (first | (with_reducible first | exact HB.out | apply below_alloc | apply pw_below_drewN | apply below_drew1) | exact HB.out)) hb); clear HB; have HO233 := n0_; have HB := n1_; clear n0_ n1_; (try clear hb); (try clear hb2); (try clear hk); (try clear hi); (try clear ho0)))
    go_ret2
    exact ⟨by first | rfl | (simp [errW_none, errW_some] <;> rfl) | (simp [*, errW_none, errW_some] <;> rfl), by repeat (first | (with_reducible first | exact HB.out | apply below_alloc | apply pw_below_drewN | apply below_drew1) | exact HB.out)⟩

end Go.Proofs.Ytgfbejlggakkhaa.Q
