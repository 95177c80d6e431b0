/-
  The program's powers and quotients in the field of 256, as the plain ones.
-/
import Derived.Test.YtdgeapgfpikcmaaH0
import Derived.Test.YtdgeapgfpikcmaaQx3
namespace Go.Proofs.Ytdgeapgfpikcmaa.Hand
open Go.RowKit Gf Go.Proofs.Ytdgeapgfpikcmaa.Q Go.Proofs.YtdgeapgfpikcmaaV.PrintWords Go.Proofs.YtdgeapgfpikcmaaV.PrintLast Go.Proofs.YtdgeapgfpikcmaaV.PrintMore

theorem raised_loop (m : Nat) : ∀ (k : Nat) (a p : G) (n : Nat), n < 2 ^ m → m ≤ 62 → m + 10 ≤ k → field_raised.l0 k (gi a) (n : Int) (gi p) = some (gi (p * pw a n)) := by
  induction m with
  | zero =>
    intro k a p n hn h62 hk
    obtain ⟨k, rfl⟩ : ∃ q, k = q + 1 := ⟨k - 1, by omega⟩
    have : n = 0 := by simpa using hn
    subst this
    rw [field_raised.l0, if_neg (by omega)]
    show some (gi p) = some (gi (p * g1))
    rw [mul_one]
  | succ m ih =>
    intro k a p n hn h62 hk
    obtain ⟨k, rfl⟩ : ∃ q, k = q + 1 := ⟨k - 1, by omega⟩
    rw [field_raised.l0]
    by_cases h0 : n = 0
    · subst h0
      rw [if_neg (by omega)]
      show some (gi p) = some (gi (p * g1))
      rw [mul_one]
    · rw [if_pos (by omega)]
      have h63 : n < 2 ^ 63 := Nat.lt_of_lt_of_le hn (Nat.pow_le_pow_right (by decide) (by omega))
      have e1 : Go.bits .and .i64 (n : Int) 1 = ((n % 2 : Nat) : Int) := by
        have := bits_mask .i64 63 (by decide) (fun q h0 h1 => by rw [IntKind.wrap_i64]; omega) 1 (by decide) (n : Int) (by omega) (by omega)
        simpa using this
      have e2 : (n : Int) / 2 = ((n / 2 : Nat) : Int) := by omega
      have hn2 : n / 2 < 2 ^ m := by rw [Nat.pow_succ] at hn; omega
      have hsq : pw (a * a) (n / 2) = pw a (2 * (n / 2)) := by
        rw [show a * a = pw a 2 from (by show a * a = g1 * a * a; rw [one_mul]), pw_pw]
      have two : ∀ x : Int, (if x > 0 then ((field_Times.f k (gi p) (gi a)).bind fun t106 => ((field_Times.f k (gi a) (gi a)).bind fun t107 => (field_raised.l0 k t107 ((n : Int) / 2) t106))) else ((field_Times.f k (gi a) (gi a)).bind fun t108 => (field_raised.l0 k t108 ((n : Int) / 2) (gi p)))) =
          if x > 0 then some (gi (p * a * pw a (2 * (n / 2)))) else some (gi (p * pw a (2 * (n / 2)))) := by
        intro x
        rw [times_eq p a k (by omega), times_eq a a k (by omega), Option.bind_some, Option.bind_some, Option.bind_some, e2]
        rw [ih k (a * a) (p * a) (n / 2) hn2 (by omega) (by omega), ih k (a * a) p (n / 2) hn2 (by omega) (by omega), hsq]
      have hgoal : ∀ x : Int, (x > 0 ↔ n % 2 = 1) → (if x > 0 then some (gi (p * a * pw a (2 * (n / 2)))) else some (gi (p * pw a (2 * (n / 2))))) = some (gi (p * pw a n)) := by
        intro x hx
        by_cases h1 : n % 2 = 1
        · rw [if_pos (hx.2 h1)]
          congr 2
          have : n = 2 * (n / 2) + 1 := by omega
          conv => rhs; rw [this]
          show _ = p * (pw a (2 * (n / 2)) * a)
          ac_rfl
        · rw [if_neg (fun h => h1 (hx.1 h))]
          rw [show 2 * (n / 2) = n from by omega]
      refine (two _).trans (hgoal _ ?_)
      rw [e1]
      omega
theorem raised_eq (a : G) (n k : Nat) (hn : n < 256) (hk : 18 ≤ k) : field_raised.f k (gi a) (n : Int) = some (gi (pw a n)) := by
  have h := raised_loop 8 k a g1 n hn (by omega) (by omega)
  rw [one_mul] at h
  exact h
theorem exp_eq (n k : Nat) (hn : n ≤ 9223372036854775807) (hk : 18 ≤ k) : field_Exp.f k (n : Int) = some (gi (px n)) := by
  unfold field_Exp.f
  have e1 : Int.tmod (wrap64 ((Int.tmod (n : Int) 255) + 255)) 255 = ((n % 255 : Nat) : Int) := by
    have q : Int.tmod (n : Int) 255 = ((n % 255 : Nat) : Int) := by rw [Int.tmod_eq_emod_of_nonneg (by omega)]; omega
    rw [q]
    have w : wrap64 (((n % 255 : Nat) : Int) + 255) = ((n % 255 + 255 : Nat) : Int) := by unfold wrap64; omega
    rw [w, Int.tmod_eq_emod_of_nonneg (by omega)]
    omega
  rw [e1]
  have h2 : (2 : Int) = gi (px 1) := rfl
  rw [h2, raised_eq (px 1) (n % 255) k (by omega) hk, Option.bind_some, pw_px, Nat.one_mul, px_mod]
theorem unit_eq (n p k : Nat) (hp : p < n) (hn : n ≤ 9223372036854775807) (hk : 18 ≤ k) : mend_unit.f k (p : Int) (n : Int) = some (gi (px (n - 1 - p))) := by
  unfold mend_unit.f
  have e : wrap64 (wrap64 ((n : Int) - 1) - (p : Int)) = ((n - 1 - p : Nat) : Int) := by
    have w : wrap64 ((n : Int) - 1) = (n : Int) - 1 := by unfold wrap64; omega
    rw [w]; unfold wrap64; omega
  rw [e, exp_eq _ k (by omega) hk, Option.bind_some]
/-- the quotient, as the program has it -/
theorem over_eq (a b : G) (k : Nat) (hk : 18 ≤ k) : field_Over.f k (gi a) (gi b) = if b = g0 then some (0, 6) else some (gi (a * inv b), 0) := by
  unfold field_Over.f
  by_cases h : b = g0
  · rw [if_pos h, if_pos (by rw [h]; rfl)]
  · rw [if_neg h, if_neg (fun h2 => h (gi_inj (by rw [h2]; rfl)))]
    have e := raised_eq b 254 k (by decide) hk
    have e' : field_raised.f k (gi b) 254 = some (gi (pw b 254)) := e
    rw [e', Option.bind_some, times_eq _ _ k (by omega), Option.bind_some]; rfl
theorem unit_call (n p : Nat) (hp : p < n) (hn : n ≤ 9223372036854775807) (w : World) : Calls Try.prog 52 #[.int .i64 (p : Int), .int .i64 (n : Int)] w fun e w' => e = .returned (.int .u8 (gi (px (n - 1 - p)))) ∧ Drawn0 w w' :=
  mend_unit.calls 18 _ _ _ w (unit_eq n p 18 hp hn (Nat.le_refl _))
theorem over_call (a b : G) (w : World) (h : b ≠ g0) : Calls Try.prog 53 #[.int .u8 (gi a), .int .u8 (gi b)] w fun e w' => e = .returned (.tuple #[.int .u8 (gi (a * inv b)), .int .i64 0]) ∧ Drawn0 w w' :=
  field_Over.calls 18 _ _ _ _ w (by rw [over_eq a b 18 (Nat.le_refl _), if_neg h])
theorem over_none (a : G) (w : World) : Calls Try.prog 53 #[.int .u8 (gi a), .int .u8 (gi g0)] w fun e w' => e = .returned (.tuple #[.int .u8 0, .int .i64 6]) ∧ Drawn0 w w' :=
  field_Over.calls 18 _ _ _ _ w (by rw [over_eq a g0 18 (Nat.le_refl _), if_pos rfl])
end Go.Proofs.Ytdgeapgfpikcmaa.Hand
