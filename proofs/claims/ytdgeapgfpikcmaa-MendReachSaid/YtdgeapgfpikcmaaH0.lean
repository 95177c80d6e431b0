/-
  The program's product in the field of 256, as the plain product.
-/
import Derived.Test.YtdgeapgfpikcmaaGf
import Derived.Test.YtdgeapgfpikcmaaQx1
namespace Go.Proofs.Ytdgeapgfpikcmaa.Hand
open Go.RowKit Gf Go.Proofs.Ytdgeapgfpikcmaa.Q Go.Proofs.YtdgeapgfpikcmaaV.PrintWords Go.Proofs.YtdgeapgfpikcmaaV.PrintLast Go.Proofs.YtdgeapgfpikcmaaV.PrintMore

/-- a field number, as the program's byte -/
def gi (a : G) : Int := (a.n : Int)
theorem gi_lo (a : G) : 0 ≤ gi a := Int.natCast_nonneg _
theorem gi_hi (a : G) : gi a < 256 := by have := a.lt; unfold gi; omega
theorem gi_inj {a b : G} (h : gi a = gi b) : a = b := G.ext (by unfold gi at h; omega)
/-- a byte of the program, as a field number -/
def ig (n : Int) : G := ⟨n.toNat % 256, Nat.mod_lt _ (by decide)⟩
theorem gi_ig {n : Int} (h0 : 0 ≤ n) (h1 : n < 256) : gi (ig n) = n := by
  unfold gi ig
  have : n.toNat % 256 = n.toNat := Nat.mod_eq_of_lt (by omega)
  show ((n.toNat % 256 : Nat) : Int) = n
  rw [this]; omega
theorem ig_gi (a : G) : ig (gi a) = a := gi_inj (gi_ig (gi_lo a) (gi_hi a))

theorem bits_xor_k (k : IntKind) (j : Nat) (hj : j ≤ k.bits) (hk : ∀ n : Int, 0 ≤ n → n < 2 ^ j → k.wrap n = n) (a b : Nat) (ha : a < 2 ^ j) (hb : b < 2 ^ j) :
    Go.bits .xor k (a : Int) (b : Int) = ((a ^^^ b : Nat) : Int) := by
  have hp : 2 ^ j ≤ 2 ^ k.bits := Nat.pow_le_pow_right (by decide) hj
  have ha' : a % 2 ^ k.bits = a := Nat.mod_eq_of_lt (Nat.lt_of_lt_of_le ha hp)
  have hb' : b % 2 ^ k.bits = b := Nat.mod_eq_of_lt (Nat.lt_of_lt_of_le hb hp)
  have hx : a ^^^ b < 2 ^ j := Nat.xor_lt_two_pow ha hb
  simp only [Go.bits, BitVec.ofInt_natCast, BitVec.toNat_xor, BitVec.toNat_ofNat, ha', hb']
  exact hk _ (Int.natCast_nonneg _) (by exact_mod_cast hx)
theorem bits_xor_nat {a b : Nat} (ha : a < 256) (hb : b < 256) : Go.bits .xor .u8 (a : Int) (b : Int) = ((a ^^^ b : Nat) : Int) :=
  bits_xor_k .u8 8 (by decide) wraps_u8 a b ha hb
theorem bits_xor (a b : G) : Go.bits .xor .u8 (gi a) (gi b) = gi (a + b) := bits_xor_nat a.lt b.lt
theorem bits_and1 {b : Nat} (hb : b < 256) : Go.bits .and .u8 (b : Int) 1 = ((b % 2 : Nat) : Int) := by
  have h := bits_mask .u8 8 (by decide) wraps_u8 1 (by decide) (b : Int) (by omega) (by omega)
  simpa using h

/-- the second number is its last bit, and twice the rest -/
theorem half (b : Nat) (hb : b < 256) : (⟨b, hb⟩ : G) = ⟨b % 2, by omega⟩ + ⟨b / 2, by omega⟩ * px 1 := by
  have key : ∀ b, b < 256 → b = (b % 2) ^^^ xt (b / 2) := by decide +kernel
  apply G.ext
  rw [add_n, mul_px]
  exact key b hb
theorem times_loop (k : Nat) : ∀ (a b p : Nat) (ha : a < 256) (hb : b < 256) (hp : p < 256), b < 2 ^ k →
    field_Times.l0 (k + 1) (a : Int) (b : Int) (p : Int) = some (gi ((⟨p, hp⟩ : G) + ⟨a, ha⟩ * ⟨b, hb⟩)) := by
  induction k with
  | zero =>
    intro a b p ha hb hp h
    have : b = 0 := by simpa using h
    subst this
    simp only [field_Times.l0]
    rw [if_neg (by omega)]
    have : (⟨0, hb⟩ : G) = g0 := rfl
    rw [this, mul_zero, add_zero]; rfl
  | succ k ih =>
    intro a b p ha hb hp h
    rw [field_Times.l0]
    by_cases h0 : b = 0
    · subst h0
      rw [if_neg (by omega)]
      have : (⟨0, hb⟩ : G) = g0 := rfl
      rw [this, mul_zero, add_zero]; rfl
    · rw [if_pos (by omega)]
      have hxt : xt a < 256 := xt_lt a ha
      have e1 : Go.bits .xor .u8 (((a : Int) * 2) % 256) ((((a : Int) / 128) * 29) % 256) = ((xt a : Nat) : Int) := by
        have q1 : ((a : Int) * 2) % 256 = ((a * 2 % 256 : Nat) : Int) := by omega
        have q2 : (((a : Int) / 128) * 29) % 256 = ((a / 128 * 29 % 256 : Nat) : Int) := by omega
        rw [q1, q2, bits_xor_nat (by omega) (by omega)]
        have key : ∀ a, a < 256 → (a * 2 % 256) ^^^ (a / 128 * 29 % 256) = xt a := by decide +kernel
        rw [key a ha]
      have e2 : (b : Int) / 2 = ((b / 2 : Nat) : Int) := by omega
      have hm : a * (b % 2) < 256 := by rcases Nat.mod_two_eq_zero_or_one b with h2 | h2 <;> rw [h2] <;> omega
      have e3 : Go.bits .xor .u8 (p : Int) (((a : Int) * (Go.bits .and .u8 (b : Int) 1)) % 256) = ((p ^^^ (a * (b % 2)) : Nat) : Int) := by
        rw [bits_and1 hb]
        have q : ((a : Int) * ((b % 2 : Nat) : Int)) % 256 = ((a * (b % 2) : Nat) : Int) := by
          rw [← Int.natCast_mul]; omega
        rw [q, bits_xor_nat hp hm]
      rw [e1, e2, e3, ih (xt a) (b / 2) (p ^^^ (a * (b % 2))) hxt (by omega) (xor_lt hp hm) (by rw [Nat.pow_succ] at h; omega)]
      congr 2
      have ex : (⟨xt a, hxt⟩ : G) = ⟨a, ha⟩ * px 1 := G.ext (by rw [mul_px]; rfl)
      have ep : (⟨p ^^^ (a * (b % 2)), xor_lt hp hm⟩ : G) = ⟨p, hp⟩ + ⟨a, ha⟩ * ⟨b % 2, by omega⟩ := by
        have em : (⟨a, ha⟩ : G) * ⟨b % 2, by omega⟩ = ⟨a * (b % 2), hm⟩ := by
          rcases Nat.mod_two_eq_zero_or_one b with h2 | h2
          · have : (⟨b % 2, by omega⟩ : G) = g0 := G.ext h2
            rw [this, mul_zero]
            exact G.ext (by show 0 = a * (b % 2); rw [h2]; rfl)
          · have : (⟨b % 2, by omega⟩ : G) = g1 := G.ext h2
            rw [this, mul_one]
            exact G.ext (by show a = a * (b % 2); rw [h2, Nat.mul_one])
        rw [em]; rfl
      rw [ep, ex, half b hb, mul_add, add_assoc]
      congr 2
      rw [mul_assoc, mul_comm (px 1)]
theorem times_eq (a b : G) (k : Nat) (hk : 9 ≤ k) : field_Times.f k (gi a) (gi b) = some (gi (a * b)) := by
  have h := times_loop (k - 1) a.n b.n 0 a.lt b.lt (by decide) (Nat.lt_of_lt_of_le b.lt (Nat.pow_le_pow_right (n := 2) (i := 8) (by decide) (by omega)))
  rw [show k - 1 + 1 = k from by omega] at h
  unfold field_Times.f gi
  have e : (⟨0, by decide⟩ : G) = g0 := rfl
  rw [e, zero_add] at h
  exact h
theorem times_call (a b : G) (w : World) : Calls Try.prog 51 #[.int .u8 (gi a), .int .u8 (gi b)] w fun e w' => e = .returned (.int .u8 (gi (a * b))) ∧ Drawn0 w w' :=
  field_Times.calls 9 _ _ _ w (times_eq a b 9 (Nat.le_refl _))
end Go.Proofs.Ytdgeapgfpikcmaa.Hand
