/-
  Doubles that hold n / 2 ^ s: what the operations give, exactly.
-/
import Derived.Laws.FloatBits
import Derived.Laws.FloatArith
namespace Go.Proofs.Ytgfbejlggakkhaa.F64
/-- kept shut, so that nobody reckons the power -/
@[irreducible] def K : Nat := 1074
theorem K_eq : K = 1074 := by unfold K; rfl
open Ieee Go

/-- A double whose value is n / 2^s. -/
def G (s : Nat) (n : Int) (x : Nat) : Prop :=
  ∃ neg mag place, double.read x = .number neg mag place ∧ -1074 ≤ place ∧ signed neg mag (place + 1074).toNat * 2 ^ s = n * 2 ^ K

theorem lp : double.leastPlace = -1074 := by decide
theorem bn : double.binade = 2 ^ 52 := rfl
theorem sw : double.signWeight = 2 ^ 63 := rfl
theorem ir : double.infRung = 2047 * 2 ^ 52 := by decide

theorem signed_eq (neg : Bool) (m u : Nat) : signed neg m u = (if neg then -1 else 1) * ((m : Int) * 2 ^ u) := by
  unfold signed
  rw [Nat.shiftLeft_eq]
  cases neg <;> simp
theorem log2_unique {n k : Nat} (h1 : 2 ^ k ≤ n) (h2 : n < 2 ^ (k + 1)) : n.log2 = k := by
  have h0 : n ≠ 0 := by have := Nat.two_pow_pos k; omega
  exact (Nat.log2_eq_iff h0).2 ⟨h1, h2⟩
theorem log2_mul_pow {n : Nat} (h : n ≠ 0) (k : Nat) : (n * 2 ^ k).log2 = n.log2 + k := by
  have h1 := Nat.log2_self_le h
  have h2 := @Nat.lt_log2_self n
  refine log2_unique ?_ ?_
  · rw [Nat.pow_add]; exact Nat.mul_le_mul_right _ h1
  · rw [show n.log2 + k + 1 = (n.log2 + 1) + k by omega, Nat.pow_add]
    exact Nat.mul_lt_mul_of_pos_right h2 (Nat.two_pow_pos _)

/-- What is read at a rung below infinity. -/
theorem read_word (neg : Bool) (L kept : Nat) (h1 : kept < 2 ^ 53) (h2 : 0 < L → 2 ^ 52 ≤ kept) (h3 : L ≤ 2045) :
    double.read (double.word neg (L * 2 ^ 52 + kept)) = .number neg kept (-1074 + (L : Int)) := by
  have hr : L * 2 ^ 52 + kept < 2047 * 2 ^ 52 := by omega
  have hb : L * 2 ^ 52 + kept < 2 ^ 63 := by omega
  have e1 : (double.word neg (L * 2 ^ 52 + kept) / 2 ^ 63 % 2 == 1) = neg := by
    unfold Format.word; rw [sw]
    cases neg
    · simp only [Bool.false_eq_true, if_false]
      rw [Nat.div_eq_of_lt hb]; rfl
    · simp only [if_true]
      rw [Nat.add_div_left _ (by decide), Nat.div_eq_of_lt hb]; rfl
  have e2 : double.word neg (L * 2 ^ 52 + kept) % 2 ^ 63 = L * 2 ^ 52 + kept := by
    unfold Format.word; rw [sw]
    cases neg
    · simp only [Bool.false_eq_true, if_false]; exact Nat.mod_eq_of_lt hb
    · simp only [if_true]; rw [Nat.add_mod_left]; exact Nat.mod_eq_of_lt hb
  unfold Format.read
  simp only [sw, bn, ir, lp]
  rw [e1, e2]
  by_cases hz : L = 0 ∧ kept < 2 ^ 52
  · obtain ⟨rfl, hk⟩ := hz
    rw [if_pos (by omega), Nat.zero_mul, Nat.zero_add]
    rfl
  · have hge : ¬ (L * 2 ^ 52 + kept < 2 ^ 52) := by
      intro h
      apply hz
      by_cases h0 : L = 0
      · exact ⟨h0, by omega⟩
      · have := h2 (by omega); omega
    rw [if_neg hge, if_pos hr]
    have hk : 2 ^ 52 ≤ kept := by
      by_cases h0 : L = 0
      · subst h0; omega
      · exact h2 (by omega)
    have em : (L * 2 ^ 52 + kept) % 2 ^ 52 = kept - 2 ^ 52 := by omega
    have ed : (L * 2 ^ 52 + kept) / 2 ^ 52 = L + 1 := by omega
    rw [em, ed, show 2 ^ 52 + (kept - 2 ^ 52) = kept by omega, show L + 1 - 1 = L by omega]

/-- A number that a double holds exactly is read back. -/
theorem nearest_exact (neg : Bool) (mag : Nat) (place : Int) (hm : mag ≠ 0) (hlast : ∀ last : Int, last = max (place + mag.log2 - 52) (-1074) → place < last → 2 ^ (last - place).toNat ∣ mag) (hbig : place + mag.log2 ≤ 1023) :
    ∃ kept last, double.read (double.nearest neg mag place) = .number neg kept last ∧ -1074 ≤ last ∧ kept * 2 ^ (last - place).toNat = mag * 2 ^ (place - last).toNat := by
  obtain ⟨last, hl⟩ : ∃ last : Int, last = max (place + mag.log2 - 52) (-1074) := ⟨_, rfl⟩
  have hlast := hlast last hl
  have hll : -1074 ≤ last := by omega
  have g1 := Nat.log2_self_le hm
  have g2 := @Nat.lt_log2_self mag
  obtain ⟨kept, hk, hkk⟩ : ∃ kept, Toward.even.cut neg (mag <<< (place - last).toNat) (last - place).toNat = kept ∧ kept * 2 ^ (last - place).toNat = mag * 2 ^ (place - last).toNat := by
    by_cases h : place < last
    · obtain ⟨q, hq⟩ := hlast h
      refine ⟨q, ?_, ?_⟩
      · have e0 : (place - last).toNat = 0 := by omega
        rw [e0, Nat.shiftLeft_zero]
        unfold Toward.cut
        have hq0 : q ≠ 0 := by rintro rfl; simp at hq; exact hm hq
        have hmin : min (last - place).toNat (mag.log2 + 2) = (last - place).toNat := by
          have : (last - place).toNat ≤ mag.log2 := by
            have := log2_mul_pow hq0 (last - place).toNat
            rw [Nat.mul_comm, ← hq] at this
            omega
          omega
        simp only [hmin, Nat.shiftLeft_eq, Nat.one_mul]
        have hp := Nat.two_pow_pos (last - place).toNat
        have hr : mag % 2 ^ (last - place).toNat = 0 := Nat.mod_eq_zero_of_dvd ⟨q, hq⟩
        have hd : mag / 2 ^ (last - place).toNat = q := by rw [hq]; exact Nat.mul_div_cancel_left _ hp
        rw [hr, hd]
        have : decide (2 ^ (last - place).toNat < 2 * 0) = false := decide_eq_false (by omega)
        have h2 : (2 ^ (last - place).toNat == 2 * 0) = false := by
          rw [beq_eq_false_iff_ne]; omega
        simp only [this, h2, Bool.false_or, Bool.false_and, Bool.toNat_false, Nat.add_zero]
      · have e0 : (place - last).toNat = 0 := by omega
        rw [e0, Nat.pow_zero, Nat.mul_one, hq, Nat.mul_comm]
    · refine ⟨mag * 2 ^ (place - last).toNat, ?_, ?_⟩
      · have e0 : (last - place).toNat = 0 := by omega
        rw [e0, Nat.shiftLeft_eq]
        unfold Toward.cut
        simp only [Nat.zero_min, Nat.shiftLeft_zero, Nat.div_one, Nat.mod_one]
        simp
      · have e0 : (last - place).toNat = 0 := by omega
        rw [e0, Nat.pow_zero, Nat.mul_one]
  have hk0 : kept ≠ 0 := by
    rintro rfl
    rw [Nat.zero_mul] at hkk
    have := Nat.mul_pos (Nat.pos_of_ne_zero hm) (Nat.two_pow_pos (place - last).toNat)
    omega
  have hlog : kept.log2 + (last - place).toNat = mag.log2 + (place - last).toNat := by
    rw [← log2_mul_pow hk0, ← log2_mul_pow hm, hkk]
  have k1 := Nat.log2_self_le hk0
  have k2 := @Nat.lt_log2_self kept
  refine ⟨kept, last, ?_, hll, hkk⟩
  unfold Format.nearest
  rw [if_neg hm]
  have hfb : (double.fractionBits : Int) = 52 := rfl
  simp only [lp, hfb, bn, ir]
  rw [← hl, hk]
  have b53 : kept < 2 ^ 53 := Nat.lt_of_lt_of_le k2 (Nat.pow_le_pow_right (by decide) (by omega))
  have hb : 0 < (last + 1074).toNat → 2 ^ 52 ≤ kept := fun h => Nat.le_trans (Nat.pow_le_pow_right (by decide) (by omega)) k1
  have hL : (last + 1074).toNat ≤ 2045 := by omega
  have e : last - -1074 = last + 1074 := by omega
  rw [e, Nat.min_eq_left (by omega), read_word neg _ kept b53 hb hL]
  congr 1
  omega

theorem read_word0 (neg : Bool) : double.read (double.word neg 0) = .number neg 0 (-1074) := by cases neg <;> decide

/-- What is written is what it was, if a double holds it. -/
theorem write_G (s : Nat) (neg : Bool) (mag : Nat) (place : Int) (k : Nat) (base : Int) (hb1 : base ≤ place) (hb2 : base ≤ -(s : Int)) (he : mag * 2 ^ (place - base).toNat = k * 2 ^ (-(s : Int) - base).toNat) (hk : k ≤ 2 ^ 53) (hs : s ≤ 1074) :
    G s ((if neg then -1 else 1) * (k : Int)) (double.write (.number neg mag place)) := by
  show G s _ (double.nearest neg mag place)
  by_cases hm : mag = 0
  · have hk0 : k = 0 := by
      rw [hm, Nat.zero_mul] at he
      rcases Nat.mul_eq_zero.1 he.symm with h | h
      · exact h
      · have := Nat.two_pow_pos (-(s : Int) - base).toNat; omega
    refine ⟨neg, 0, -1074, ?_, by omega, ?_⟩
    · unfold Format.nearest
      rw [if_pos hm]
      exact read_word0 neg
    · rw [signed_eq, hk0]; cases neg <;> simp
  · have hk0 : k ≠ 0 := by
      rintro rfl
      rw [Nat.zero_mul] at he
      rcases Nat.mul_eq_zero.1 he with h | h
      · exact hm h
      · have := Nat.two_pow_pos (place - base).toNat; omega
    have hl : mag.log2 + (place - base).toNat = k.log2 + (-(s : Int) - base).toNat := by
      rw [← log2_mul_pow hm, ← log2_mul_pow hk0, he]
    have hk53 : k.log2 ≤ 53 := by
      have := Nat.log2_self_le hk0
      have h2 : 2 ^ k.log2 ≤ 2 ^ 53 := Nat.le_trans this hk
      exact (Nat.pow_le_pow_iff_right (by decide)).1 h2
    obtain ⟨kept, last, hr, hll, hkk⟩ := nearest_exact neg mag place hm (fun last hlast hlt => by
      -- mag = k * 2 ^ (-s - place) or so
      by_cases hs' : last ≤ -(s : Int)
      · refine ⟨k * 2 ^ (-(s : Int) - last).toNat, ?_⟩
        have : mag * 2 ^ (place - base).toNat = (2 ^ (last - place).toNat * (k * 2 ^ (-(s : Int) - last).toNat)) * 2 ^ (place - base).toNat := by
          rw [he, Nat.mul_comm (2 ^ (last - place).toNat), Nat.mul_assoc, Nat.mul_assoc, ← Nat.pow_add, ← Nat.pow_add]
          congr 2
          omega
        exact Nat.eq_of_mul_eq_mul_right (Nat.two_pow_pos _) this
      · -- k = 2 ^ 53
        have h53 : k.log2 = 53 := by omega
        have hk2 : k = 2 ^ 53 := by
          have := Nat.log2_self_le hk0
          rw [h53] at this
          omega
        refine ⟨2 ^ (53 - (s : Int) - last).toNat, ?_⟩
        have : mag * 2 ^ (place - base).toNat = (2 ^ (last - place).toNat * 2 ^ (53 - (s : Int) - last).toNat) * 2 ^ (place - base).toNat := by
          rw [he, hk2, ← Nat.pow_add, ← Nat.pow_add, ← Nat.pow_add]
          congr 1
          omega
        exact Nat.eq_of_mul_eq_mul_right (Nat.two_pow_pos _) this) (by omega)
    refine ⟨neg, kept, last, hr, hll, ?_⟩
    rw [signed_eq, Int.mul_assoc, Int.mul_assoc, Int.mul_assoc]
    refine congrArg (fun z : Int => (if neg then -1 else 1) * z) ?_
    -- kept * 2^(last+1074) * 2^s = k * 2^1074
    have : kept * (2 ^ (last + 1074).toNat * 2 ^ s) = k * 2 ^ K := by
      have hK := K_eq
      obtain ⟨b, hb, hb3, hb4, hb5⟩ : ∃ b : Int, b ≤ base ∧ b ≤ place ∧ b ≤ last ∧ b ≤ -(s : Int) ∧ b ≤ -1074 ∧ b ≤ 0 := ⟨min base (min place (min last (-1074))), by omega, by omega, by omega, by omega, by omega, by omega⟩
      -- both sides times 2^(place - last) etc.
      have h1 : kept * 2 ^ (last - b).toNat = mag * 2 ^ (place - b).toNat := by
        have := congrArg (· * 2 ^ ((min last place) - b).toNat) hkk
        simp only [Nat.mul_assoc, ← Nat.pow_add] at this
        rw [show (last - place).toNat + (min last place - b).toNat = (last - b).toNat by omega, show (place - last).toNat + (min last place - b).toNat = (place - b).toNat by omega] at this
        exact this
      have h2 : mag * 2 ^ (place - b).toNat = k * 2 ^ (-(s : Int) - b).toNat := by
        have := congrArg (· * 2 ^ (base - b).toNat) he
        simp only [Nat.mul_assoc, ← Nat.pow_add] at this
        rw [show (place - base).toNat + (base - b).toNat = (place - b).toNat by omega, show (-(s : Int) - base).toNat + (base - b).toNat = (-(s : Int) - b).toNat by omega] at this
        exact this
      have h3 := h1.trans h2
      have h4 := congrArg (· * 2 ^ (K + s)) h3
      simp only [Nat.mul_assoc, ← Nat.pow_add] at h4
      rw [← Nat.pow_add]
      have : kept * 2 ^ ((last + 1074).toNat + s) * 2 ^ (-b).toNat = k * 2 ^ K * 2 ^ (-b).toNat := by
        rw [Nat.mul_assoc, Nat.mul_assoc, ← Nat.pow_add, ← Nat.pow_add, show (last + 1074).toNat + s + (-b).toNat = (last - b).toNat + (K + s) by omega, show K + (-b).toNat = (-(s : Int) - b).toNat + (K + s) by omega]
        exact h4
      exact Nat.eq_of_mul_eq_mul_right (Nat.two_pow_pos _) this
    have h' := congrArg (fun n : Nat => (n : Int)) this
    push_cast at h'
    exact h'

theorem pow_pos' (k : Nat) : (0 : Int) < 2 ^ k := Int.pow_pos (by decide)
theorem pow_ne' (k : Nat) : (2 : Int) ^ k ≠ 0 := Int.ne_of_gt (pow_pos' k)
theorem signed_up (neg : Bool) (m u v : Nat) : signed neg m u * 2 ^ v = signed neg m (u + v) := by
  rw [signed_eq, signed_eq, Int.mul_assoc, Int.mul_assoc, ← Int.pow_add]
theorem natAbs_signed (neg : Bool) (m u : Nat) : (signed neg m u).natAbs = m * 2 ^ u := by
  rw [signed_eq]
  have : ((m : Int) * 2 ^ u) = ((m * 2 ^ u : Nat) : Int) := by push_cast; rfl
  rw [this, Int.natAbs_mul, Int.natAbs_natCast]
  cases neg <;> simp
/-- a finite double has a value -/
theorem G_of_number {x : Nat} {neg : Bool} {m : Nat} {p : Int} (h : double.read x = .number neg m p) (hp : -1074 ≤ p) : G K (signed neg m (p + 1074).toNat) x :=
  ⟨neg, m, p, h, hp, rfl⟩
theorem read_place {x : Nat} {neg : Bool} {m : Nat} {p : Int} (h : double.read x = .number neg m p) : -1074 ≤ p := by
  unfold Format.read at h
  simp only [lp] at h
  split at h
  · injection h; omega
  · split at h
    · injection h; omega
    · split at h <;> cases h
theorem G_abs {s : Nat} {n : Int} {x : Nat} (h : G s n x) : ∃ neg mag place, double.read x = .number neg mag place ∧ -1074 ≤ place ∧ signed neg mag (place + 1074).toNat * 2 ^ s = n * 2 ^ K ∧ mag * 2 ^ ((place + 1074).toNat + s) = n.natAbs * 2 ^ K := by
  obtain ⟨neg, mag, place, h1, h2, h3⟩ := h
  refine ⟨neg, mag, place, h1, h2, h3, ?_⟩
  have := congrArg Int.natAbs h3
  rw [signed_up, natAbs_signed, Int.natAbs_mul] at this
  rw [this, Int.natAbs_pow]
  rfl
theorem G_scale {s : Nat} {n : Int} {x : Nat} (t : Nat) (h : G s n x) : G (s + t) (n * 2 ^ t) x := by
  obtain ⟨neg, mag, place, h1, h2, h3⟩ := h
  refine ⟨neg, mag, place, h1, h2, ?_⟩
  rw [Int.pow_add, ← Int.mul_assoc, h3, Int.mul_assoc, Int.mul_assoc, Int.mul_comm (2 ^ K)]
theorem signed_not (neg : Bool) (m u : Nat) : signed (!neg) m u = -signed neg m u := by
  unfold signed; cases neg <;> simp
theorem cmp_mul {a b c : Int} (hc : 0 < c) : compare (a * c) (b * c) = compare a b := by
  show compareOfLessAndEq (a * c) (b * c) = compareOfLessAndEq a b
  unfold compareOfLessAndEq
  by_cases h1 : a < b
  · rw [if_pos h1, if_pos (Int.mul_lt_mul_of_pos_right h1 hc)]
  · rw [if_neg h1, if_neg (fun h => h1 (Int.lt_of_mul_lt_mul_right h (by omega)))]
    by_cases h2 : a = b
    · rw [if_pos h2, if_pos (by rw [h2])]
    · rw [if_neg h2, if_neg (fun h => h2 (Int.eq_of_mul_eq_mul_right (by omega) h))]
theorem G_order {s : Nat} {a b : Int} {x y : Nat} (h1 : G s a x) (h2 : G s b y) : double.order x y = some (compare a b) := by
  obtain ⟨n1, m1, i, e1, hi, h1⟩ := h1
  obtain ⟨n2, m2, j, e2, hj, h2⟩ := h2
  unfold Format.order Datum.order
  rw [e1, e2]
  simp only
  congr 1
  have hp := pow_pos' ((min i j + 1074).toNat + s)
  rw [← cmp_mul hp, ← cmp_mul (a := a) (b := b) (pow_pos' K), ← h1, ← h2, signed_up, signed_up, signed_up, signed_up]
  rw [show (i - min i j).toNat + ((min i j + 1074).toNat + s) = (i + 1074).toNat + s by omega, show (j - min i j).toNat + ((min i j + 1074).toNat + s) = (j + 1074).toNat + s by omega]
theorem G_ofInt (n : Int) (h : n.natAbs ≤ 2 ^ 53) : G 0 n (floatOfInt .f64 n) := by
  have hg := write_G 0 (decide (n < 0)) n.natAbs 0 n.natAbs 0 (by omega) (by omega) rfl h (by omega)
  have : (if decide (n < 0) = true then (-1 : Int) else 1) * (n.natAbs : Int) = n := by
    by_cases h0 : n < 0
    · simp [h0]; omega
    · simp [h0]; omega
  rw [this] at hg
  exact hg
def readOf (neg : Bool) (rung : Nat) : Datum :=
  if rung < 2 ^ 52 then .number neg rung (-1074)
  else if rung < 2047 * 2 ^ 52 then .number neg (2 ^ 52 + rung % 2 ^ 52) (-1074 + (rung / 2 ^ 52 - 1 : Nat))
  else if rung = 2047 * 2 ^ 52 then .infinity neg
  else .nan neg (rung - 2047 * 2 ^ 52)
theorem read_of (x : Nat) : double.read x = readOf (x / 2 ^ 63 % 2 == 1) (x % 2 ^ 63) := by
  unfold Format.read readOf
  simp only [sw, bn, ir, lp]
theorem readOf_not (neg : Bool) (r : Nat) : readOf (!neg) r = (readOf neg r).opposite := by
  unfold readOf
  by_cases c1 : r < 2 ^ 52
  · rw [if_pos c1, if_pos c1]; rfl
  · rw [if_neg c1, if_neg c1]
    by_cases c2 : r < 2047 * 2 ^ 52
    · rw [if_pos c2, if_pos c2]; rfl
    · rw [if_neg c2, if_neg c2]
      by_cases c3 : r = 2047 * 2 ^ 52
      · rw [if_pos c3, if_pos c3]; rfl
      · rw [if_neg c3, if_neg c3]; rfl
theorem read_neg {x : Nat} (hx : x < 2 ^ 64) : double.read (Op.negFloat .f64 x) = (double.read x).opposite := by
  have e : Op.negFloat .f64 x = x ^^^ 2 ^ 63 := rfl
  have h1 : (x ^^^ 2 ^ 63) % 2 ^ 63 = x % 2 ^ 63 := by
    rw [Nat.xor_mod_two_pow, Nat.mod_self, Nat.xor_zero]
  have h2 : ((x ^^^ 2 ^ 63) / 2 ^ 63 % 2 == 1) = !(x / 2 ^ 63 % 2 == 1) := by
    have : (x ^^^ 2 ^ 63) / 2 ^ 63 = x / 2 ^ 63 ^^^ 1 := by
      rw [← Nat.shiftRight_eq_div_pow, Nat.shiftRight_xor_distrib, Nat.shiftRight_eq_div_pow, Nat.shiftRight_eq_div_pow, Nat.div_self (by decide)]
    rw [this]
    have hb : x / 2 ^ 63 < 2 := by omega
    rcases (by omega : x / 2 ^ 63 = 0 ∨ x / 2 ^ 63 = 1) with h | h <;> rw [h] <;> rfl
  rw [e, read_of, read_of, h1, h2, readOf_not]
theorem G_neg {s : Nat} {a : Int} {x : Nat} (h : G s a x) (hx : x < 2 ^ 64) : G s (-a) (Op.negFloat .f64 x) := by
  obtain ⟨n1, m1, i, e1, hi, h1⟩ := h
  refine ⟨!n1, m1, i, ?_, hi, ?_⟩
  · rw [read_neg hx, e1]; rfl
  · rw [signed_not, Int.neg_mul, h1, Int.neg_mul]

/-! ### whole numbers -/
/-- what is cut off, of a number n / 2 ^ s -/
theorem cut_value {s : Nat} {a : Nat} {m : Nat} {i : Int} (hi : -1074 ≤ i) (h : m * 2 ^ ((i + 1074).toNat + s) = a * 2 ^ K) :
    (m <<< i.toNat) / 2 ^ (-i).toNat = a / 2 ^ s ∧ ((m <<< i.toNat) % 2 ^ (-i).toNat = 0 ↔ a % 2 ^ s = 0) := by
  have hK := K_eq
  rw [Nat.shiftLeft_eq]
  -- both, times a power of two
  have h1 : (m * 2 ^ i.toNat) * 2 ^ (K + s) = (a * 2 ^ K) * 2 ^ (-i).toNat := by
    rw [← h, Nat.mul_assoc, Nat.mul_assoc, ← Nat.pow_add, ← Nat.pow_add]
    congr 2
    omega
  -- X * 2^(K+s) = A * 2^K * 2^d
  have hp := Nat.two_pow_pos K
  have hd := Nat.two_pow_pos (-i).toNat
  have hs := Nat.two_pow_pos s
  have h2 : (m * 2 ^ i.toNat) * 2 ^ s = a * 2 ^ (-i).toNat := by
    apply Nat.eq_of_mul_eq_mul_right hp
    rw [Nat.mul_assoc, ← Nat.pow_add, Nat.add_comm s K, h1, Nat.mul_assoc, Nat.mul_assoc, Nat.mul_comm (2 ^ K)]
  have q1 : (m * 2 ^ i.toNat) / 2 ^ (-i).toNat = a / 2 ^ s := by
    rw [← Nat.mul_div_mul_right _ _ hs, h2, Nat.mul_comm (2 ^ (-i).toNat), Nat.mul_div_mul_right _ _ hd]
  refine ⟨q1, ?_⟩
  have e1 := Nat.div_add_mod (m * 2 ^ i.toNat) (2 ^ (-i).toNat)
  have e2 := Nat.div_add_mod a (2 ^ s)
  rw [q1] at e1
  have e3 : (m * 2 ^ i.toNat) % 2 ^ (-i).toNat * 2 ^ s = a % 2 ^ s * 2 ^ (-i).toNat := by
    have : (2 ^ (-i).toNat * (a / 2 ^ s) + (m * 2 ^ i.toNat) % 2 ^ (-i).toNat) * 2 ^ s = (2 ^ s * (a / 2 ^ s) + a % 2 ^ s) * 2 ^ (-i).toNat := by rw [e1, e2, h2]
    rw [Nat.add_mul, Nat.add_mul] at this
    have e4 : 2 ^ (-i).toNat * (a / 2 ^ s) * 2 ^ s = 2 ^ s * (a / 2 ^ s) * 2 ^ (-i).toNat := by ac_rfl
    omega
  constructor
  · intro h0; rw [h0, Nat.zero_mul] at e3
    rcases Nat.mul_eq_zero.1 e3.symm with h | h <;> omega
  · intro h0; rw [h0, Nat.zero_mul] at e3
    rcases Nat.mul_eq_zero.1 e3 with h | h <;> omega
/-- 'cut' without its own bound on the digits -/
theorem cut_gap (n drop : Nat) : n / 1 <<< min drop (n.log2 + 2) = n / 2 ^ drop ∧ (n % 1 <<< min drop (n.log2 + 2) = 0 ↔ n % 2 ^ drop = 0) := by
  rw [Nat.shiftLeft_eq, Nat.one_mul]
  by_cases h : drop ≤ n.log2 + 2
  · rw [Nat.min_eq_left h]; exact ⟨rfl, Iff.rfl⟩
  · rw [Nat.min_eq_right (by omega)]
    have h1 := @Nat.lt_log2_self n
    have h2 : n < 2 ^ (n.log2 + 2) := Nat.lt_of_lt_of_le h1 (Nat.pow_le_pow_right (by decide) (by omega))
    have h3 : n < 2 ^ drop := Nat.lt_of_lt_of_le h2 (Nat.pow_le_pow_right (by decide) (by omega))
    rw [Nat.div_eq_of_lt h2, Nat.div_eq_of_lt h3, Nat.mod_eq_of_lt h2, Nat.mod_eq_of_lt h3]
    exact ⟨rfl, Iff.rfl⟩
theorem cut_zero (neg : Bool) (n drop : Nat) : Toward.zero.cut neg n drop = n / 2 ^ drop := by
  unfold Toward.cut
  simp only [(cut_gap n drop).1, Bool.toNat_false, Nat.add_zero]
theorem cut_up (neg : Bool) (n drop : Nat) : Toward.up.cut neg n drop = n / 2 ^ drop + (!neg && decide (n % 2 ^ drop ≠ 0)).toNat := by
  unfold Toward.cut
  simp only [(cut_gap n drop).1]
  congr 3
  have := (cut_gap n drop).2
  by_cases h : n % 2 ^ drop = 0
  · rw [this.2 h, h]; rfl
  · rw [decide_eq_true h]
    rw [bne_iff_ne]
    exact fun h' => h (this.1 h')

theorem G_sgn {n : Bool} {m u v : Nat} {z : Int} (h : signed n m u * 2 ^ v = z * 2 ^ K) : z = (if n then -1 else 1) * (z.natAbs : Int) := by
  rw [signed_eq] at h
  have hp : (0 : Int) ≤ (m : Int) * 2 ^ u * 2 ^ v := Int.mul_nonneg (Int.mul_nonneg (by omega) (by have := pow_pos' u; omega)) (by have := pow_pos' v; omega)
  have hq := pow_pos' K
  rw [Int.mul_assoc] at h
  cases n
  · simp at h ⊢
    have : 0 ≤ z := Int.le_of_mul_le_mul_right (by rw [Int.zero_mul, ← h]; exact hp) hq
    omega
  · simp at h ⊢
    have : z ≤ 0 := Int.le_of_mul_le_mul_right (by rw [Int.zero_mul, ← h]; omega) hq
    omega
theorem floor_unique {a q p : Int} (hp : 0 < p) (h1 : p * q ≤ a) (h2 : a < p * q + p) : a / p = q := by
  have g1 : q ≤ a / p := Int.le_ediv_of_mul_le hp (by rw [Int.mul_comm]; exact h1)
  have g2 : a / p < q + 1 := Int.ediv_lt_of_lt_mul hp (by rw [Int.add_mul, Int.one_mul, Int.mul_comm q p]; exact h2)
  omega
theorem neg_floor (n : Nat) (s : Nat) : (-(n : Int)) / 2 ^ s = -((n / 2 ^ s + (decide (n % 2 ^ s ≠ 0)).toNat : Nat) : Int) := by
  have hp := Nat.two_pow_pos s
  have e := Nat.div_add_mod n (2 ^ s)
  have hm := Nat.mod_lt n hp
  have hcast : ((2 ^ s : Nat) : Int) = (2 : Int) ^ s := by push_cast; rfl
  obtain ⟨p, hpp⟩ : ∃ p : Nat, p = 2 ^ s := ⟨_, rfl⟩
  rw [← hcast, ← hpp]
  rw [← hpp] at e hm hp
  have e' : ((p * (n / p) : Nat) : Int) + ((n % p : Nat) : Int) = n := by omega
  by_cases h0 : n % p = 0
  · refine floor_unique (by omega) ?_ ?_
    · simp [h0] at e' ⊢; rw [Int.mul_neg]; omega
    · simp [h0] at e' ⊢; rw [Int.mul_neg]; omega
  · refine floor_unique (by omega) ?_ ?_
    · simp [h0]; push_cast at e' ⊢; rw [Int.mul_neg, Int.mul_add]; omega
    · simp [h0]; push_cast at e' ⊢; rw [Int.mul_neg, Int.mul_add]; omega
theorem pos_floor (n : Nat) (s : Nat) : ((n : Int)) / 2 ^ s = ((n / 2 ^ s : Nat) : Int) := by push_cast; rfl
theorem G_toInt {s : Nat} {a : Int} {x : Nat} (h : G s a x) : (double.read x).toInt .zero = some (a.tdiv (2 ^ s)) := by
  obtain ⟨n1, m1, i, e1, hi, h1, k1⟩ := G_abs h
  rw [e1]
  unfold Datum.toInt Datum.integral
  simp only [cut_zero, (cut_value hi k1).1]
  congr 1
  have hs := G_sgn h1
  have hcast : ((2 ^ s : Nat) : Int) = (2 : Int) ^ s := by push_cast; rfl
  have hd : ((a.natAbs : Int)).tdiv ((2 ^ s : Nat) : Int) = ((a.natAbs / 2 ^ s : Nat) : Int) := rfl
  rw [signed_eq, Int.pow_zero, Int.mul_one, ← hcast]
  cases n1
  · simp only [Bool.false_eq_true, if_false, Int.one_mul] at hs ⊢
    rw [← hd, ← hs]
  · simp only [if_true] at hs ⊢
    conv => rhs; rw [hs, Int.neg_one_mul, Int.neg_tdiv, hd]
    rw [Int.neg_one_mul]
theorem G_whole (neg : Bool) (m : Nat) (h : m ≤ 2 ^ 53) : G 0 ((if neg then -1 else 1) * (m : Int)) (double.write (.number neg m 0)) :=
  write_G 0 neg m 0 m 0 (by omega) (by omega) rfl h (by omega)
theorem G_ceil {s : Nat} {a : Int} {x : Nat} (h : G s a x) (hb : (-(-a / 2 ^ s)).natAbs ≤ 2 ^ 53) : G 0 (-(-a / 2 ^ s)) (FloatKind.f64.encode ((FloatKind.f64.decode x).integral .up)) := by
  obtain ⟨n1, m1, i, e1, hi, h1, k1⟩ := G_abs h
  show G 0 (-(-a / 2 ^ s)) (double.write ((double.read x).integral .up))
  rw [e1]
  unfold Datum.integral
  simp only [cut_up, (cut_value hi k1).1]
  have hr := (cut_value hi k1).2
  have hs := G_sgn h1
  have hr' : decide ((m1 <<< i.toNat) % 2 ^ (-i).toNat ≠ 0) = decide (a.natAbs % 2 ^ s ≠ 0) := by
    rw [decide_eq_decide]; exact not_congr hr
  rw [hr']
  have hv : -(-a / 2 ^ s) = (if n1 then -1 else 1) * ((a.natAbs / 2 ^ s + (!n1 && decide (a.natAbs % 2 ^ s ≠ 0)).toNat : Nat) : Int) := by
    cases n1
    · simp only [Bool.false_eq_true, if_false, Int.one_mul, Bool.not_false, Bool.true_and] at hs ⊢
      conv => lhs; rw [hs]
      rw [neg_floor, Int.neg_neg]
    · simp only [if_true, Bool.not_true, Bool.false_and, Bool.toNat_false, Nat.add_zero] at hs ⊢
      conv => lhs; rw [hs, Int.neg_one_mul, Int.neg_neg]
      rw [pos_floor, Int.neg_one_mul]
  rw [hv]
  refine G_whole n1 _ ?_
  rw [hv, Int.natAbs_mul, Int.natAbs_natCast] at hb
  cases n1 <;> simpa using hb

theorem read_mag {x : Nat} {neg : Bool} {m : Nat} {p : Int} (h : double.read x = .number neg m p) : m < 2 ^ 53 := by
  rw [read_of] at h
  unfold readOf at h
  split at h
  · injection h; omega
  · split at h
    · injection h; omega
    · split at h <;> cases h
end Go.Proofs.Ytgfbejlggakkhaa.F64
