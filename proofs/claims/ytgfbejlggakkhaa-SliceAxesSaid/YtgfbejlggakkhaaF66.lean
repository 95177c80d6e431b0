/-
  Doubles: one word for a value; what operations leave; a number cut to a box.
-/
import Derived.Test.YtgfbejlggakkhaaF65
namespace Go.Proofs.Ytgfbejlggakkhaa.F64
open Ieee Go.Proofs.YtgfbejlggakkhaaW.PrintWords
/-- what a word reads as is what it is -/
theorem canon {x : Nat} {s : Bool} {m : Nat} {p : Int} (h : double.read x = .number s m p) (hx : x < 2 ^ 64) : x = (if s then 2 ^ 63 else 0) + ((p + 1074).toNat * 2 ^ 52 + m) ∧ (m < 2 ^ 52 → p = -1074) := by
  rw [read_of] at h
  unfold readOf at h
  have hs : ∀ r : Nat, r = x % 2 ^ 63 → x = (if (x / 2 ^ 63 % 2 == 1) = true then 2 ^ 63 else 0) + r := by
    intro r hr
    subst hr
    have h2 : x / 2 ^ 63 = 0 ∨ x / 2 ^ 63 = 1 := by omega
    rcases h2 with h2 | h2 <;> rw [h2] <;> simp <;> omega
  by_cases c1 : x % 2 ^ 63 < 2 ^ 52
  · rw [if_pos c1] at h
    injection h with e1 e2 e3
    subst e1 e2 e3
    exact ⟨hs _ (by simp), fun _ => rfl⟩
  · rw [if_neg c1] at h
    by_cases c2 : x % 2 ^ 63 < 2047 * 2 ^ 52
    · rw [if_pos c2] at h
      injection h with e1 e2 e3
      subst e1 e2 e3
      refine ⟨hs _ ?_, fun h => by omega⟩
      have : (-1074 + ((x % 2 ^ 63 / 2 ^ 52 - 1 : Nat) : Int) + 1074).toNat = x % 2 ^ 63 / 2 ^ 52 - 1 := by omega
      rw [this]
      omega
    · rw [if_neg c2] at h
      split at h <;> cases h
theorem same_mag {m1 m2 a b : Nat} (h1 : m1 < 2 ^ 53) (hb : 0 < b → 2 ^ 52 ≤ m2) (hab : a ≤ b) (h : m1 * 2 ^ a = m2 * 2 ^ b) : m1 = m2 ∧ a = b := by
  obtain ⟨d, rfl⟩ : ∃ d, b = a + d := ⟨b - a, by omega⟩
  have e : m1 = m2 * 2 ^ d := by
    apply Nat.eq_of_mul_eq_mul_right (Nat.two_pow_pos a)
    rw [h, Nat.pow_add, Nat.mul_assoc, Nat.mul_comm (2 ^ d)]
  cases d with
  | zero => exact ⟨by rw [e]; simp, rfl⟩
  | succ d =>
    exfalso
    have h52 := hb (by omega)
    have : 2 ^ 52 * 2 ≤ m2 * 2 ^ (d + 1) := Nat.mul_le_mul h52 (by rw [Nat.pow_succ]; have := Nat.two_pow_pos d; omega)
    omega
/-- two words of one value other than nought are one word -/
theorem word_unique {a : Int} {x y : Nat} (h1 : G K a x) (h2 : G K a y) (ha : a ≠ 0) (hx : x < 2 ^ 64) (hy : y < 2 ^ 64) : x = y := by
  obtain ⟨s1, m1, p1, e1, q1, f1, g1⟩ := G_abs h1
  obtain ⟨s2, m2, p2, e2, q2, f2, g2⟩ := G_abs h2
  obtain ⟨c1, d1⟩ := canon e1 hx
  obtain ⟨c2, d2⟩ := canon e2 hy
  have hm1 := read_mag e1
  have hm2 := read_mag e2
  have hs : s1 = s2 := by
    have a1 := G_sgn f1
    have a2 := G_sgn f2
    cases s1 <;> cases s2 <;> simp at a1 a2 ⊢ <;> omega
  have hg : m1 * 2 ^ ((p1 + 1074).toNat) = m2 * 2 ^ ((p2 + 1074).toNat) := by
    have := g1.trans g2.symm
    rw [Nat.pow_add, Nat.pow_add, ← Nat.mul_assoc, ← Nat.mul_assoc] at this
    exact Nat.eq_of_mul_eq_mul_right (Nat.two_pow_pos K) this
  have hb : ∀ {m : Nat} {p : Int}, (m < 2 ^ 52 → p = -1074) → 0 < (p + 1074).toNat → 2 ^ 52 ≤ m := by
    intro m p hd hp
    by_cases hm : m < 2 ^ 52
    · have := hd hm; omega
    · omega
  rcases Nat.le_total (p1 + 1074).toNat (p2 + 1074).toNat with hl | hl
  · obtain ⟨e3, e4⟩ := same_mag hm1 (hb d2) hl hg
    rw [c1, c2, hs, e3, e4]
  · obtain ⟨e3, e4⟩ := same_mag hm2 (hb d1) hl hg.symm
    rw [c1, c2, hs, e3, e4]
/-! ### what an operation leaves is a number or an infinity -/
theorem nearest_kind (neg : Bool) (mag : Nat) (place : Int) : (∃ m p, double.read (double.nearest neg mag place) = .number neg m p) ∨ double.read (double.nearest neg mag place) = .infinity neg := by
  have key : ∀ r : Nat, r ≤ 2047 * 2 ^ 52 → (∃ m p, double.read (double.word neg r) = .number neg m p) ∨ double.read (double.word neg r) = .infinity neg := by
    intro r hr
    have e1 : (double.word neg r / 2 ^ 63 % 2 == 1) = neg := by
      unfold Format.word; rw [sw]
      cases neg
      · simp only [Bool.false_eq_true, if_false]
        rw [Nat.div_eq_of_lt (by omega)]; rfl
      · simp only [if_true]
        rw [Nat.add_div_left _ (by decide), Nat.div_eq_of_lt (by omega)]; rfl
    have e2 : double.word neg r % 2 ^ 63 = r := by
      unfold Format.word; rw [sw]
      cases neg
      · simp only [Bool.false_eq_true, if_false]; exact Nat.mod_eq_of_lt (by omega)
      · simp only [if_true]; rw [Nat.add_mod_left]; exact Nat.mod_eq_of_lt (by omega)
    rw [read_of, e1, e2]
    unfold readOf
    by_cases c1 : r < 2 ^ 52
    · rw [if_pos c1]; exact .inl ⟨_, _, rfl⟩
    · rw [if_neg c1]
      by_cases c2 : r < 2047 * 2 ^ 52
      · rw [if_pos c2]; exact .inl ⟨_, _, rfl⟩
      · rw [if_neg c2, if_pos (by omega)]; exact .inr rfl
  unfold Format.nearest
  split
  · exact key 0 (by omega)
  · refine key _ ?_
    rw [ir]
    exact Nat.min_le_right _ _
/-- no NaN and not below everything -/
def Good (x : Nat) : Prop := (∃ s m p, double.read x = .number s m p) ∨ double.read x = .infinity false
theorem good_write (s : Bool) (m : Nat) (p : Int) : (double.read (double.write (.number s m p))).isNaN = false := by
  show (double.read (double.nearest s m p)).isNaN = false
  rcases nearest_kind s m p with ⟨a, b, h⟩ | h <;> rw [h] <;> rfl
theorem sum_num (s : Bool) (m : Nat) (p : Int) (t : Bool) (n : Nat) (q : Int) : ∃ a b c, (Datum.number s m p).sum (.number t n q) = some (.number a b c) := ⟨_, _, _, rfl⟩
theorem sub_num {x y : Nat} (hx : ∃ s m p, double.read x = .number s m p) (hy : ∃ s m p, double.read y = .number s m p) : ∃ r, floatBits .sub .f64 x y = some r ∧ (double.read r).isNaN = false := by
  obtain ⟨s, m, p, hx⟩ := hx
  obtain ⟨t, n, q, hy⟩ := hy
  obtain ⟨a, b, c, h⟩ := sum_num s m p (!t) n q
  refine ⟨double.write (.number a b c), ?_, good_write _ _ _⟩
  show double.sub x y = _
  unfold Format.sub
  rw [hx, hy]
  exact congrArg (Option.map double.write) h
theorem sq_good {x : Nat} (hx : (double.read x).isNaN = false) : ∃ r, floatBits .mul .f64 x x = some r ∧ Good r := by
  rcases kinds x with ⟨s, m, p, h, _⟩ | ⟨s, h⟩ | ⟨s, t, h⟩
  · refine ⟨double.write (.number (s ^^ s) (m * m) (p + p)), ?_, ?_⟩
    · show double.mul x x = _
      unfold Format.mul
      rw [h]
      rfl
    · show Good (double.nearest _ _ _)
      rw [Bool.xor_self]
      rcases nearest_kind false (m * m) (p + p) with ⟨a, b, h⟩ | h
      · exact .inl ⟨_, _, _, h⟩
      · exact .inr h
  · refine ⟨double.write (.infinity (s ^^ s)), ?_, ?_⟩
    · show double.mul x x = _
      unfold Format.mul
      rw [h]
      rfl
    · rw [Bool.xor_self]
      exact .inr (by decide)
  · rw [h] at hx; cases hx
theorem add_good {x y : Nat} (hx : Good x) (hy : Good y) : ∃ r, floatBits .add .f64 x y = some r ∧ (double.read r).isNaN = false := by
  have inf : (double.read (double.write (.infinity false))).isNaN = false := by decide
  rcases hx with ⟨s, m, p, hx⟩ | hx
  · rcases hy with ⟨t, n, q, hy⟩ | hy
    · obtain ⟨a, b, c, h⟩ := sum_num s m p t n q
      refine ⟨double.write (.number a b c), ?_, good_write _ _ _⟩
      show double.add x y = _
      unfold Format.add
      rw [hx, hy]
      exact congrArg (Option.map double.write) h
    · refine ⟨_, ?_, inf⟩
      show double.add x y = _
      unfold Format.add
      rw [hx, hy]
      rfl
  · rcases hy with ⟨t, n, q, hy⟩ | hy
    · refine ⟨_, ?_, inf⟩
      show double.add x y = _
      unfold Format.add
      rw [hx, hy]
      rfl
    · refine ⟨_, ?_, inf⟩
      show double.add x y = _
      unfold Format.add
      rw [hx, hy]
      rfl
/-! ### a number cut to a box -/
theorem G_nz {n : Int} {x : Nat} (h : G K n x) (hn : n ≠ 0) : (double.read x).isZero = false := by
  cases hz : (double.read x).isZero with
  | false => rfl
  | true => exact absurd (G_zero_of h hz) hn
theorem pick_min {a b : Int} {x y : Nat} (h1 : G K a x) (h2 : G K b y) (hb : b ≠ 0) : fpick true .lt x y = if a < b then x else y := by
  obtain ⟨s1, m1, p1, e1⟩ := G_num h1
  obtain ⟨s2, m2, p2, e2⟩ := G_num h2
  have d1 : FloatKind.f64.decode x = .number s1 m1 p1 := e1
  have d2 : FloatKind.f64.decode y = .number s2 m2 p2 := e2
  have ho : (Datum.number s1 m1 p1).order (.number s2 m2 p2) = some (compare a b) := by rw [← e1, ← e2]; exact G_order h1 h2
  have hz : (Datum.number s2 m2 p2).isZero = false := by rw [← e2]; exact G_nz h2 hb
  unfold fpick
  simp only [d1, d2, ho, lt_dec, num_inf, num_nan, hz, Bool.or_self, Bool.and_false, Bool.false_eq_true, if_false, decide_eq_true_eq]
theorem pick_max {a b : Int} {x y : Nat} (h1 : G K a x) (h2 : G K b y) (ha : a ≠ 0) : fpick false .gt x y = if b < a then x else y := by
  obtain ⟨s1, m1, p1, e1⟩ := G_num h1
  obtain ⟨s2, m2, p2, e2⟩ := G_num h2
  have d1 : FloatKind.f64.decode x = .number s1 m1 p1 := e1
  have d2 : FloatKind.f64.decode y = .number s2 m2 p2 := e2
  have ho : (Datum.number s1 m1 p1).order (.number s2 m2 p2) = some (compare a b) := by rw [← e1, ← e2]; exact G_order h1 h2
  have hz : (Datum.number s1 m1 p1).isZero = false := by rw [← e1]; exact G_nz h1 ha
  unfold fpick
  simp only [d1, d2, ho, gt_dec, num_inf, num_nan, hz, Bool.or_self, Bool.false_and, Bool.false_eq_true, if_false, decide_eq_true_eq]
/-- the program's cut and the document's: the same word, a number -/
theorem cut_same (x : Nat) (hx : (double.read x).isNaN = false) (hl : x < 2 ^ 64) (e : Int) (h1 : 1 ≤ e) (h2 : e ≤ 15) :
    ∃ r, fpick false .gt (Op.negFloat .f64 (floatOfInt .f64 e)) (fpick true .lt x (floatOfInt .f64 e)) = r ∧
      (if (ford x (Op.negFloat .f64 (floatOfInt .f64 e)) == some .lt) = true then Op.negFloat .f64 (floatOfInt .f64 e) else if (ford x (floatOfInt .f64 e) == some .gt) = true then floatOfInt .f64 e else x) = r ∧
      ∃ n, G K n r ∧ -e * 2 ^ K ≤ n ∧ n ≤ e * 2 ^ K := by
  have hp := pow_pos' K
  have he := G_intK e (by omega)
  have hne := G_negK e (by omega)
  have hle : -e * 2 ^ K ≤ e * 2 ^ K := Int.mul_le_mul_of_nonneg_right (by omega) (Int.le_of_lt hp)
  have hpe : 0 < e * 2 ^ K := Int.mul_pos (by omega) hp
  have hnz : -e * 2 ^ K < 0 := by rw [Int.neg_mul]; omega
  rcases kinds x with ⟨s, m, p, h, _⟩ | ⟨s, h⟩ | ⟨s, t, h⟩
  · obtain ⟨n, hn⟩ := G_K h
    rw [ford_G hn hne, ford_G hn he, lt_dec, gt_dec, pick_min hn he (by omega)]
    by_cases c1 : n < e * 2 ^ K
    · rw [if_pos c1, pick_max hne hn (by omega)]
      by_cases c2 : n < -e * 2 ^ K
      · rw [if_pos c2, decide_eq_true c2]
        exact ⟨_, rfl, rfl, _, hne, Int.le_refl _, hle⟩
      · rw [if_neg c2, decide_eq_false c2, if_neg Bool.false_ne_true, decide_eq_false (by omega), if_neg Bool.false_ne_true]
        exact ⟨_, rfl, rfl, _, hn, by omega, by omega⟩
    · rw [if_neg c1, pick_max hne he (by omega), if_neg (by omega), decide_eq_false (by omega), if_neg Bool.false_ne_true]
      by_cases c3 : e * 2 ^ K < n
      · rw [decide_eq_true c3]
        exact ⟨_, rfl, rfl, _, he, hle, Int.le_refl _⟩
      · rw [decide_eq_false c3, if_neg Bool.false_ne_true]
        have en : n = e * 2 ^ K := by omega
        rw [en] at hn
        exact ⟨_, rfl, word_unique hn he (by omega) hl (bits_lt e), _, he, hle, Int.le_refl _⟩
  · obtain ⟨se, me, pe, ee⟩ := G_num he
    obtain ⟨sn, mn, pn, en⟩ := G_num hne
    have de : FloatKind.f64.decode (floatOfInt .f64 e) = .number se me pe := ee
    have dn : FloatKind.f64.decode (Op.negFloat .f64 (floatOfInt .f64 e)) = .number sn mn pn := en
    have dx : FloatKind.f64.decode x = .infinity s := h
    cases s with
    | false =>
      have e1 : fpick true .lt x (floatOfInt .f64 e) = floatOfInt .f64 e := by
        unfold fpick
        simp only [dx, de, num_inf, num_nan, inf_ft, inf_nan, inf_zero, inf_num_order, gt_lt, Bool.or_self, Bool.false_and, Bool.false_eq_true, if_false]
      have f1 : ford x (Op.negFloat .f64 (floatOfInt .f64 e)) = some .gt := by rw [ford_eq, h, en, inf_num_order]; rfl
      have f2 : ford x (floatOfInt .f64 e) = some .gt := by rw [ford_eq, h, ee, inf_num_order]; rfl
      rw [e1, pick_max hne he (by omega), if_neg (by omega), f1, f2, gt_lt, gt_gt, if_neg Bool.false_ne_true]
      exact ⟨_, rfl, rfl, _, he, hle, Int.le_refl _⟩
    | true =>
      have e1 : fpick true .lt x (floatOfInt .f64 e) = FloatKind.f64.encode (.infinity true) := by
        unfold fpick
        simp only [dx, inf_tt, Bool.true_or, if_true]
      have e2 : fpick false .gt (Op.negFloat .f64 (floatOfInt .f64 e)) (FloatKind.f64.encode (.infinity true)) = Op.negFloat .f64 (floatOfInt .f64 e) := by
        unfold fpick
        simp only [dec_inf, dn, num_inf, num_nan, inf_tf, inf_nan, inf_zero, num_inf_order, gt_gt, Bool.or_self, Bool.and_false, Bool.false_eq_true, if_false, if_true]
      have f1 : ford x (Op.negFloat .f64 (floatOfInt .f64 e)) = some .lt := by rw [ford_eq, h, en, inf_num_order]; rfl
      have lt_lt : (some Ordering.lt == some Ordering.lt) = true := rfl
      rw [e1, e2, f1, lt_lt]
      exact ⟨_, rfl, rfl, _, hne, Int.le_refl _, hle⟩
  · rw [h] at hx; cases hx
end Go.Proofs.Ytgfbejlggakkhaa.F64
