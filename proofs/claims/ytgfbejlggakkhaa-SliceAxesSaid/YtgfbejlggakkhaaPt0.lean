/-
  The closures of the constellations: an axis' number; the points of a square set and of a cross.
-/
import Derived.Test.YtgfbejlggakkhaaQx4
import Derived.StillTailTactics
namespace Go.Proofs.Ytgfbejlggakkhaa.Hand
open Go.RowKit Go.Proofs.Ytgfbejlggakkhaa.Q Go.Proofs.YtgfbejlggakkhaaW.PrintWords Go.Proofs.YtgfbejlggakkhaaW.PrintLast Go.Proofs.YtgfbejlggakkhaaW.PrintMore
attribute [local go_sem] vres_some fres_some cres_some ires_some run_f_add run_f_sub run_f_mul run_f_quo run_c_add run_c_sub run_f_int run_f_same unary_f_neg run_store_float run_store_complex max2_int min2_int max_two min_two
set_option linter.unusedVariables false

theorem drawn0_quiet {w w' : World} {n : Nat} (h : Drawn0 (w.drewN n) w') : ∃ m, w' = w.drewN m := by
  obtain ⟨m, hm⟩ := h
  exact ⟨n + m, by rw [hm, World.drewN_drewN]⟩
/-- the number of an axis' word -/
def axisOf (edge p : Int) : Nat := floatOfInt .f64 (wrap64 (wrap64 (2 * p) - edge))
set_option maxHeartbeats 1000000 in
theorem axis_calls (k : Nat) (edge word p e2 : Int) (ge : Nat) (w : World) (hc : w.cell? ⟨ge, 0, none⟩ = some (.int .i64 edge)) (hU : bits_Ungray.f k word = some (p, e2)) :
    Calls Try.prog 77 #[.int .i64 word, .pointer (some ⟨ge, 0, none⟩)] w fun e w' => e = .returned (.float .f64 (axisOf edge p)) ∧ Drawn0 w w' := by
  go_enter Try.func77, Try.ntmps77
  go_wp2_with ((with_reducible refine gate_callee (f := 78) rfl ?_); refine goesL_ (some 8) rfl rfl Try.func78 (by kernel_rfl) rfl #[.int .i64 word] rfl (by (try simp only [List.map_toArray, List.map_cons, List.map_nil]); first | done | rfl) ?_; (with_reducible refine (bits_Ungray.calls k word p e2 _ hU).mono ?_); rintro e w' ⟨rfl, ⟨m1, rfl⟩⟩; refine ⟨_, rfl, ?_⟩)
  go_ret
  exact ⟨rfl, ⟨m1, rfl⟩⟩
theorem axis_quiet (k : Nat) (edge word p e2 : Int) (ge : Nat) (w : World) (m : Nat) (hc : w.cell? ⟨ge, 0, none⟩ = some (.int .i64 edge)) (hU : bits_Ungray.f k word = some (p, e2)) :
    Calls Try.prog 77 #[.int .i64 word, .pointer (some ⟨ge, 0, none⟩)] (w.drewN m) fun e w' => e = .returned (.float .f64 (axisOf edge p)) ∧ ∃ j, w' = w.drewN j :=
  (axis_calls k edge word p e2 ge (w.drewN m) hc hU).mono fun _ _ ⟨he, h⟩ => ⟨he, drawn0_quiet h⟩
set_option maxHeartbeats 4000000 in
set_option maxRecDepth 100000 in
/-- a square's point: the numbers of both words -/
theorem square_at (k : Nat) (n edge label : Int) (half : Nat) (ge gn ga : Nat) (w : World) (p1 p2 e1 e2 : Int) (hn : (n = 2 ∧ half = 1) ∨ (n = 4 ∧ half = 2) ∨ (n = 6 ∧ half = 3) ∨ (n = 8 ∧ half = 4))
    (h1 : w.cell? ⟨gn, 0, none⟩ = some (.int .i64 n)) (h2 : w.cell? ⟨ga, 0, none⟩ = some (.func (.func 77) #[] #[.pointer (some ⟨ge, 0, none⟩)])) (h3 : w.cell? ⟨ge, 0, none⟩ = some (.int .i64 edge))
    (hU1 : bits_Ungray.f k (label / 2 ^ half) = some (p1, e1)) (hU2 : bits_Ungray.f k (Go.bits .and .i64 label (2 ^ half - 1)) = some (p2, e2)) :
    Calls Try.prog 79 #[.int .i64 label, .pointer (some ⟨gn, 0, none⟩), .pointer (some ⟨ga, 0, none⟩)] w fun e w' => e = .returned (.complex .f64 (axisOf edge p1) (axisOf edge p2)) ∧ Drawn0 w w' := by
  rcases hn with ⟨rfl, rfl⟩ | ⟨rfl, rfl⟩ | ⟨rfl, rfl⟩ | ⟨rfl, rfl⟩
  · have q1 : ∀ m, Calls Try.prog 77 #[.int .i64 (label / 2), .pointer (some ⟨ge, 0, none⟩)] (w.drewN m) fun e w' => e = .returned (.float .f64 (axisOf edge p1)) ∧ ∃ j, w' = w.drewN j := fun m => axis_quiet k edge _ p1 e1 ge w m h3 hU1
    have q2 : ∀ m, Calls Try.prog 77 #[.int .i64 (Go.bits .and .i64 label 1), .pointer (some ⟨ge, 0, none⟩)] (w.drewN m) fun e w' => e = .returned (.float .f64 (axisOf edge p2)) ∧ ∃ j, w' = w.drewN j := fun m => axis_quiet k edge _ p2 e2 ge w m h3 hU2
    have Q1 := Aside0.mk q1
    have Q2 := Aside0.mk q2
    clear q1 q2 hU1 hU2
    go_enter Try.func79, Try.ntmps79
    go_wp2
    go_quiet ((go_at_call 77; first | (with_reducible exact Q1.out _) | (with_reducible exact Q2.out _)))
    go_wp2
    go_ret
    exact ⟨rfl, ⟨_, rfl⟩⟩
  · have q1 : ∀ m, Calls Try.prog 77 #[.int .i64 (label / 4), .pointer (some ⟨ge, 0, none⟩)] (w.drewN m) fun e w' => e = .returned (.float .f64 (axisOf edge p1)) ∧ ∃ j, w' = w.drewN j := fun m => axis_quiet k edge _ p1 e1 ge w m h3 hU1
    have q2 : ∀ m, Calls Try.prog 77 #[.int .i64 (Go.bits .and .i64 label 3), .pointer (some ⟨ge, 0, none⟩)] (w.drewN m) fun e w' => e = .returned (.float .f64 (axisOf edge p2)) ∧ ∃ j, w' = w.drewN j := fun m => axis_quiet k edge _ p2 e2 ge w m h3 hU2
    have Q1 := Aside0.mk q1
    have Q2 := Aside0.mk q2
    clear q1 q2 hU1 hU2
    go_enter Try.func79, Try.ntmps79
    go_wp2
    go_quiet ((go_at_call 77; first | (with_reducible exact Q1.out _) | (with_reducible exact Q2.out _)))
    go_wp2
    go_ret
    exact ⟨rfl, ⟨_, rfl⟩⟩
  · have q1 : ∀ m, Calls Try.prog 77 #[.int .i64 (label / 8), .pointer (some ⟨ge, 0, none⟩)] (w.drewN m) fun e w' => e = .returned (.float .f64 (axisOf edge p1)) ∧ ∃ j, w' = w.drewN j := fun m => axis_quiet k edge _ p1 e1 ge w m h3 hU1
    have q2 : ∀ m, Calls Try.prog 77 #[.int .i64 (Go.bits .and .i64 label 7), .pointer (some ⟨ge, 0, none⟩)] (w.drewN m) fun e w' => e = .returned (.float .f64 (axisOf edge p2)) ∧ ∃ j, w' = w.drewN j := fun m => axis_quiet k edge _ p2 e2 ge w m h3 hU2
    have Q1 := Aside0.mk q1
    have Q2 := Aside0.mk q2
    clear q1 q2 hU1 hU2
    go_enter Try.func79, Try.ntmps79
    go_wp2
    go_quiet ((go_at_call 77; first | (with_reducible exact Q1.out _) | (with_reducible exact Q2.out _)))
    go_wp2
    go_ret
    exact ⟨rfl, ⟨_, rfl⟩⟩
  · have q1 : ∀ m, Calls Try.prog 77 #[.int .i64 (label / 16), .pointer (some ⟨ge, 0, none⟩)] (w.drewN m) fun e w' => e = .returned (.float .f64 (axisOf edge p1)) ∧ ∃ j, w' = w.drewN j := fun m => axis_quiet k edge _ p1 e1 ge w m h3 hU1
    have q2 : ∀ m, Calls Try.prog 77 #[.int .i64 (Go.bits .and .i64 label 15), .pointer (some ⟨ge, 0, none⟩)] (w.drewN m) fun e w' => e = .returned (.float .f64 (axisOf edge p2)) ∧ ∃ j, w' = w.drewN j := fun m => axis_quiet k edge _ p2 e2 ge w m h3 hU2
    have Q1 := Aside0.mk q1
    have Q2 := Aside0.mk q2
    clear q1 q2 hU1 hU2
    go_enter Try.func79, Try.ntmps79
    go_wp2
    go_quiet ((go_at_call 77; first | (with_reducible exact Q1.out _) | (with_reducible exact Q2.out _)))
    go_wp2
    go_ret
    exact ⟨rfl, ⟨_, rfl⟩⟩
/-- a cross' point: rows from the least part up, each as long as its own edge allows -/
def crossGo (edge most : Int) : Nat → Int → Int → Option (Nat × Nat)
  | 0, _, _ => none
  | k + 1, a, l => if (if a < wrap64 (-a) then wrap64 (-a) else a) > most then (if l ≤ most then some (floatOfInt .f64 a, floatOfInt .f64 (wrap64 (wrap64 (2 * l) - most))) else crossGo edge most k (wrap64 (a + 2)) (wrap64 (l - wrap64 (most + 1))))
    else (if l ≤ edge then some (floatOfInt .f64 a, floatOfInt .f64 (wrap64 (wrap64 (2 * l) - edge))) else crossGo edge most k (wrap64 (a + 2)) (wrap64 (l - wrap64 (edge + 1))))
set_option maxHeartbeats 4000000 in
set_option maxRecDepth 100000 in
theorem cross_at (k : Nat) (edge most label : Int) (ge gm : Nat) (w : World) (r : Nat × Nat) (h1 : w.cell? ⟨ge, 0, none⟩ = some (.int .i64 edge)) (h2 : w.cell? ⟨gm, 0, none⟩ = some (.int .i64 most)) (h : crossGo edge most k (wrap64 (-edge)) label = some r) :
    Calls Try.prog 80 #[.int .i64 label, .pointer (some ⟨ge, 0, none⟩), .pointer (some ⟨gm, 0, none⟩)] w fun e w' => e = .returned (.complex .f64 r.1 r.2) ∧ Drawn0 w w' := by
  have H := Aside0.mk h
  clear h
  go_enter Try.func80, Try.ntmps80
  go_wp2
  go_loopg [0, 5] k (fun kq v0 v5 w' => ∃ (l a : Int), v0 = .int .i64 l ∧ v5 = .int .i64 a ∧ Aside0 (crossGo edge most kq a l = some r) ∧ Aside0 (kq ≤ k) ∧ Aside0 (Drawn0 w w'))
  case atStart => exact ⟨label, wrap64 (-edge), rfl, rfl, H, ⟨Nat.le_refl _⟩, ⟨Drawn0.refl _⟩⟩
  case round =>
    obtain ⟨l, a, rfl, rfl, HA, HK, HD⟩ := hrel
    obtain ⟨nd, hd⟩ := HD.out
    subst hd
    cases gk with
    | zero => exact absurd HA.out (by simp [crossGo])
    | succ k1 =>
      have h := HA.out
      clear HA H
      simp only [crossGo] at h
      obtain ⟨mj, hmj⟩ : ∃ j : Int, (if a < wrap64 (-a) then wrap64 (-a) else a) = j := ⟨_, rfl⟩
      rw [hmj] at h
      by_cases c1 : mj > most
      · rw [if_pos c1] at h
        have c1b : decide (most < mj) = true := decide_eq_true c1
        clear c1
        by_cases c2 : l ≤ most
        · rw [if_pos c2] at h
          have c2b : decide (l ≤ most) = true := decide_eq_true c2
          clear c2
          obtain rfl := Option.some.inj h
          go_wp2
          go_ret
          exact ⟨rfl, ⟨_, rfl⟩⟩
        · rw [if_neg c2] at h
          have c2b : decide (l ≤ most) = false := decide_eq_false c2
          clear c2
          have H' := Aside0.mk h
          clear h
          go_wp2
          go_roundg k1
          case measure => have := HK.out; omega
          case rel => exact ⟨_, _, rfl, rfl, H', ⟨by have := HK.out; omega⟩, ⟨_, rfl⟩⟩
      · rw [if_neg c1] at h
        have c1b : decide (most < mj) = false := decide_eq_false c1
        clear c1
        by_cases c2 : l ≤ edge
        · rw [if_pos c2] at h
          have c2b : decide (l ≤ edge) = true := decide_eq_true c2
          clear c2
          obtain rfl := Option.some.inj h
          go_wp2
          go_ret
          exact ⟨rfl, ⟨_, rfl⟩⟩
        · rw [if_neg c2] at h
          have c2b : decide (l ≤ edge) = false := decide_eq_false c2
          clear c2
          have H' := Aside0.mk h
          clear h
          go_wp2
          go_roundg k1
          case measure => have := HK.out; omega
          case rel => exact ⟨_, _, rfl, rfl, H', ⟨by have := HK.out; omega⟩, ⟨_, rfl⟩⟩
end Go.Proofs.Ytgfbejlggakkhaa.Hand
