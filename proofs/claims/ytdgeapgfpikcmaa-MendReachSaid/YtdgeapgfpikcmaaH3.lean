/-
  The product leaves the world as it is.
-/
import Derived.Test.YtdgeapgfpikcmaaH2
namespace Go.Proofs.Ytdgeapgfpikcmaa.Hand
open Go.RowKit Gf Go.Proofs.Ytdgeapgfpikcmaa.Q Go.Proofs.YtdgeapgfpikcmaaV.PrintWords Go.Proofs.YtdgeapgfpikcmaaV.PrintLast Go.Proofs.YtdgeapgfpikcmaaV.PrintMore

set_option maxHeartbeats 1000000 in
theorem times_walk (k : Nat) (a0 a1 r : Int) (w : World) (h : field_Times.f k a0 a1 = some r) :
    Calls Try.prog 51 #[.int .u8 a0, .int .u8 a1] w fun e w' => e = .returned (.int .u8 r) ∧ w' = w := by
  have H' := Aside0.mk (show field_Times.l0 k a0 a1 0 = some r from h)
  clear h
  go_enter Try.func51, Try.ntmps51
  go_wp2
  go_loopg [0, 1, 5] k (fun kq v0 v1 v5 w' => ∃ (x0 x1 x5 : Int), v0 = .int .u8 x0 ∧ v1 = .int .u8 x1 ∧ v5 = .int .u8 x5 ∧ Aside0 (field_Times.l0 kq x0 x1 x5 = some r) ∧ w = w')
  case atStart => exact ⟨a0, a1, 0, rfl, rfl, rfl, H', rfl⟩
  case round =>
    clear H'
    obtain ⟨x0, x1, x5, rfl, rfl, rfl, HA, rfl⟩ := hrel
    cases gk with
    | zero => exact absurd HA.out (by simp [field_Times.l0])
    | succ k1 =>
      have H := HA.out
      clear HA
      simp only [field_Times.l0] at H
      by_cases c3 : x1 > 0
      · rw [if_pos c3] at H
        have c3b0 : decide (0 < x1) = true := decide_eq_true c3
        clear c3
        have H' := Aside0.mk H
        clear H
        go_wp2
        go_roundg k1
        case measure => omega
        case rel => exact ⟨_, _, _, rfl, rfl, rfl, H', rfl⟩
      · rw [if_neg c3] at H
        have c3b0 : decide (0 < x1) = false := decide_eq_false c3
        clear c3
        obtain rfl := Option.some.inj H
        go_wp2
        go_ret
        exact ⟨rfl, rfl⟩
theorem times_same (a b : G) (w : World) : Calls Try.prog 51 #[.int .u8 (gi a), .int .u8 (gi b)] w fun e w' => e = .returned (.int .u8 (gi (a * b))) ∧ w' = w :=
  times_walk 9 _ _ _ w (times_eq a b 9 (Nat.le_refl _))
end Go.Proofs.Ytdgeapgfpikcmaa.Hand
