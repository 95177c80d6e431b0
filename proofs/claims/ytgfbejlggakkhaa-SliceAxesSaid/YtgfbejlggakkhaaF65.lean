/-
  Doubles: order, the lesser and the greater one, whole numbers above; a number cut to an axis.
-/
import Derived.Test.YtgfbejlggakkhaaF64
import Derived.Test.YtgfbejlggakkhaaFlt
import Derived.Test.YtgfbejlggakkhaaExt
namespace Go.Proofs.Ytgfbejlggakkhaa.F64
open Ieee Go.Proofs.YtgfbejlggakkhaaW.PrintWords


theorem ford_eq (x y : Nat) : ford x y = (double.read x).order (double.read y) := rfl
/-- a double is a number, an infinity, or none -/
theorem kinds (x : Nat) : (∃ s m p, double.read x = .number s m p ∧ -1074 ≤ p) ∨ (∃ s, double.read x = .infinity s) ∨ (∃ s t, double.read x = .nan s t) := by
  cases h : double.read x with
  | number s m p => exact .inl ⟨s, m, p, rfl, read_place h⟩
  | infinity s => exact .inr (.inl ⟨s, rfl⟩)
  | nan s t => exact .inr (.inr ⟨s, t, rfl⟩)
theorem G_K {x : Nat} {s : Bool} {m : Nat} {p : Int} (h : double.read x = .number s m p) : ∃ n, G K n x := ⟨_, G_of_number h (read_place h)⟩
theorem G_num {s : Nat} {n : Int} {x : Nat} (h : G s n x) : ∃ a b c, double.read x = .number a b c := by
  obtain ⟨a, b, c, h, _⟩ := h
  exact ⟨a, b, c, h⟩
theorem ford_G {s : Nat} {a b : Int} {x y : Nat} (h1 : G s a x) (h2 : G s b y) : ford x y = some (compare a b) := G_order h1 h2
theorem ford_nan {x y : Nat} {s : Bool} {t : Nat} (h : double.read x = .nan s t) : ford x y = none := by
  rw [ford_eq, h]; rfl
/-- 'x != x' -/
theorem ne_self (x : Nat) : (ford x x != some .eq) = (double.read x).isNaN := by
  rcases kinds x with ⟨s, m, p, h, hp⟩ | ⟨s, h⟩ | ⟨s, t, h⟩
  · obtain ⟨n, hn⟩ := G_K h
    rw [ford_G hn hn, h, Int.compare_eq_eq.2 rfl]; rfl
  · rw [ford_eq, h]; cases s <;> rfl
  · rw [ford_nan h, h]; rfl
theorem bits_lt (n : Int) : floatOfInt .f64 n < 2 ^ 64 := by
  have h := double.write_lt (.number (n < 0) n.natAbs 0)
  rw [show double.width = 64 from rfl] at h
  exact h
theorem cmp_lt {a b : Int} (h : a < b) : compare a b = .lt := Int.compare_eq_lt.2 h
theorem cmp_eq {a b : Int} (h : a = b) : compare a b = .eq := Int.compare_eq_eq.2 h
theorem cmp_gt {a b : Int} (h : b < a) : compare a b = .gt := Int.compare_eq_gt.2 h
theorem gt_dec (a b : Int) : (some (compare a b) == some Ordering.gt) = decide (b < a) := by
  rcases Int.lt_trichotomy a b with h | h | h
  · rw [cmp_lt h, decide_eq_false (by omega)]; rfl
  · rw [cmp_eq h, decide_eq_false (by omega)]; rfl
  · rw [cmp_gt h, decide_eq_true h]; rfl
theorem lt_dec (a b : Int) : (some (compare a b) == some Ordering.lt) = decide (a < b) := by
  rcases Int.lt_trichotomy a b with h | h | h
  · rw [cmp_lt h, decide_eq_true h]; rfl
  · rw [cmp_eq h, decide_eq_false (by omega)]; rfl
  · rw [cmp_gt h, decide_eq_false (by omega)]; rfl
theorem G_zero_of {s : Nat} {n : Int} {x : Nat} (h : G s n x) (hz : (double.read x).isZero = true) : n = 0 := by
  obtain ⟨a, m, p, h1, _, h2⟩ := h
  rw [h1] at hz
  have hm : m = 0 := by
    cases m with
    | zero => rfl
    | succ m => simp [Datum.isZero] at hz
  subst hm
  have h3 : n * 2 ^ K = 0 := by rw [← h2, signed_eq]; simp
  rcases Int.mul_eq_zero.1 h3 with h | h
  · exact h
  · exact absurd h (pow_ne' K)
theorem num_inf (s : Bool) (m : Nat) (p : Int) (b : Bool) : (Datum.number s m p == Datum.infinity b) = false := rfl
theorem num_nan (s : Bool) (m : Nat) (p : Int) : (Datum.number s m p).isNaN = false := rfl
/-- the lesser one, the greater one -/
theorem G_min {s : Nat} {a b : Int} {x y : Nat} (h1 : G s a x) (h2 : G s b y) : G s (min a b) (fpick true .lt x y) := by
  obtain ⟨s1, m1, p1, e1⟩ := G_num h1
  obtain ⟨s2, m2, p2, e2⟩ := G_num h2
  have d1 : FloatKind.f64.decode x = .number s1 m1 p1 := e1
  have d2 : FloatKind.f64.decode y = .number s2 m2 p2 := e2
  have ho : (Datum.number s1 m1 p1).order (.number s2 m2 p2) = some (compare a b) := by rw [← e1, ← e2]; exact G_order h1 h2
  unfold fpick
  simp only [d1, d2, ho, lt_dec, num_inf, num_nan, Bool.or_self, Bool.false_eq_true, if_false]
  by_cases hz : ((Datum.number s1 m1 p1).isZero && (Datum.number s2 m2 p2).isZero) = true
  · rw [if_pos hz]
    rw [Bool.and_eq_true] at hz
    have za := G_zero_of h1 (by rw [e1]; exact hz.1)
    have zb := G_zero_of h2 (by rw [e2]; exact hz.2)
    subst za zb
    split
    · exact h1
    · exact h2
  · rw [if_neg hz]
    by_cases hl : a < b
    · rw [decide_eq_true hl, if_pos rfl, Int.min_eq_left (by omega)]; exact h1
    · rw [decide_eq_false hl, if_neg (by decide), Int.min_eq_right (by omega)]; exact h2
theorem G_max {s : Nat} {a b : Int} {x y : Nat} (h1 : G s a x) (h2 : G s b y) : G s (max a b) (fpick false .gt x y) := by
  obtain ⟨s1, m1, p1, e1⟩ := G_num h1
  obtain ⟨s2, m2, p2, e2⟩ := G_num h2
  have d1 : FloatKind.f64.decode x = .number s1 m1 p1 := e1
  have d2 : FloatKind.f64.decode y = .number s2 m2 p2 := e2
  have ho : (Datum.number s1 m1 p1).order (.number s2 m2 p2) = some (compare a b) := by rw [← e1, ← e2]; exact G_order h1 h2
  unfold fpick
  simp only [d1, d2, ho, gt_dec, num_inf, num_nan, Bool.or_self, Bool.false_eq_true, if_false]
  by_cases hz : ((Datum.number s1 m1 p1).isZero && (Datum.number s2 m2 p2).isZero) = true
  · rw [if_pos hz]
    rw [Bool.and_eq_true] at hz
    have za := G_zero_of h1 (by rw [e1]; exact hz.1)
    have zb := G_zero_of h2 (by rw [e2]; exact hz.2)
    subst za zb
    split
    · exact h1
    · exact h2
  · rw [if_neg hz]
    by_cases hl : b < a
    · rw [decide_eq_true hl, if_pos rfl, Int.max_eq_left (by omega)]; exact h1
    · rw [decide_eq_false hl, if_neg (by decide), Int.max_eq_right (by omega)]; exact h2
theorem fint_up {s : Nat} {a : Int} {x : Nat} (h : G s a x) (hb : (-(-a / 2 ^ s)).natAbs ≤ 2 ^ 53) : ∃ r, fint .up x = some r ∧ G 0 (-(-a / 2 ^ s)) r := by
  obtain ⟨s1, m1, p1, e1⟩ := G_num h
  have d1 : FloatKind.f64.decode x = .number s1 m1 p1 := e1
  refine ⟨_, ?_, G_ceil h hb⟩
  unfold fint
  rw [d1]
theorem toInt_G {s : Nat} {a : Int} {x : Nat} (h : G s a x) (hb : -9223372036854775808 ≤ a.tdiv (2 ^ s) ∧ a.tdiv (2 ^ s) ≤ 9223372036854775807) : floatToIntVal .f64 x .i64 = some (a.tdiv (2 ^ s)) := by
  have ht : (FloatKind.f64.decode x).toInt .zero = some (a.tdiv (2 ^ s)) := G_toInt h
  unfold floatToIntVal
  rw [ht]
  simp only
  have e1 : IntKind.i64.min = -9223372036854775808 := by decide
  have e2 : IntKind.i64.max = 9223372036854775807 := by decide
  rw [e1, e2, if_pos hb]
theorem toInt_whole {a : Int} {x : Nat} (h : G 0 a x) (hb : a.natAbs ≤ 2 ^ 53) : floatToIntVal .f64 x .i64 = some a := by
  have e : a.tdiv (2 ^ 0) = a := by rw [Int.pow_zero, Int.tdiv_one]
  have := toInt_G h (by rw [e]; omega)
  rw [e] at this
  exact this
/-- a whole number on the finest scale -/
theorem G_intK (n : Int) (h : n.natAbs ≤ 2 ^ 53) : G K (n * 2 ^ K) (floatOfInt .f64 n) := by
  have := G_scale K (G_ofInt n h)
  rwa [Nat.zero_add] at this
theorem G_negK (n : Int) (h : n.natAbs ≤ 2 ^ 53) : G K (-n * 2 ^ K) (Op.negFloat .f64 (floatOfInt .f64 n)) := by
  have := G_neg (G_intK n h) (bits_lt n)
  rwa [← Int.neg_mul] at this
theorem lt_ceil (n m : Int) (p : Int) (hp : 0 < p) : m * p < n ↔ m < -(-n / p) := by
  constructor
  · intro h
    have : -n / p < -m := Int.ediv_lt_of_lt_mul hp (by rw [Int.neg_mul]; omega)
    omega
  · intro h
    have h2 : -n / p < -m := by omega
    have := (Int.ediv_lt_iff_lt_mul hp).1 h2
    rw [Int.neg_mul] at this
    omega
theorem ceil_mul (m p : Int) (hp : 0 < p) : -(-(m * p) / p) = m := by
  rw [← Int.neg_mul, Int.mul_ediv_cancel _ (by omega)]; omega
theorem inf_num_order (s t : Bool) (n : Nat) (p : Int) : (Datum.infinity s).order (.number t n p) = some (if s then .lt else .gt) := rfl
theorem num_inf_order (s t : Bool) (n : Nat) (p : Int) : (Datum.number t n p).order (.infinity s) = some (if s then .gt else .lt) := rfl
theorem inf_ft : (Datum.infinity false == Datum.infinity true) = false := rfl
theorem inf_tf : (Datum.infinity true == Datum.infinity false) = false := rfl
theorem inf_tt : (Datum.infinity true == Datum.infinity true) = true := rfl
theorem inf_nan (s : Bool) : (Datum.infinity s).isNaN = false := rfl
theorem inf_zero (s : Bool) : (Datum.infinity s).isZero = false := rfl
theorem gt_lt : (some Ordering.gt == some Ordering.lt) = false := rfl
theorem gt_gt : (some Ordering.gt == some Ordering.gt) = true := rfl
theorem dec_inf : FloatKind.f64.decode (FloatKind.f64.encode (.infinity true)) = .infinity true := by decide
theorem clamp_ceil (n e p : Int) (hp : 0 < p) (h1 : 1 ≤ e) : -(-(max (-e * p) (min n (e * p))) / p) = max (-e) (min (-(-n / p)) e) := by
  have k1 := lt_ceil n e _ hp
  have k2 := lt_ceil n (-e) _ hp
  have hle : -e * p ≤ e * p := Int.mul_le_mul_of_nonneg_right (by omega) (by omega)
  by_cases ha : n ≤ -e * p
  · rw [Int.min_eq_left (by omega), Int.max_eq_left (by omega), ceil_mul _ _ hp]
    have : ¬ (-e < -(-n / p)) := fun hh => by have := k2.2 hh; omega
    omega
  · have := k2.1 (by omega)
    by_cases hb : n ≤ e * p
    · rw [Int.min_eq_left hb, Int.max_eq_right (by omega)]
      have : ¬ (e < -(-n / p)) := fun hh => by have := k1.2 hh; omega
      omega
    · have := k1.1 (by omega)
      rw [Int.min_eq_right (by omega), Int.max_eq_right hle, ceil_mul _ _ hp]
      omega
theorem clamp_top (e p : Int) (hp : 0 < p) (h1 : 1 ≤ e) : -(-(max (-e * p) (e * p)) / p) = e := by
  have hle : -e * p ≤ e * p := Int.mul_le_mul_of_nonneg_right (by omega) (by omega)
  rw [Int.max_eq_right hle, ceil_mul _ _ hp]
theorem ceil_int {t : Nat} {n c : Int} (hn : G K n t) (hc : -(-n / 2 ^ K) = c) (hb : c.natAbs ≤ 2 ^ 53) : ∃ t3, fint .up t = some t3 ∧ floatToIntVal .f64 t3 .i64 = some c := by
  subst hc
  obtain ⟨r, hr, hg⟩ := fint_up hn hb
  exact ⟨r, hr, toInt_whole hg hb⟩
theorem gt_int {x : Nat} {n m : Int} (hn : G K n x) (hm : m.natAbs ≤ 2 ^ 53) : (ford x (floatOfInt .f64 m) == some .gt) = decide (m < -(-n / 2 ^ K)) := by
  rw [ford_G hn (G_intK m hm), gt_dec, decide_eq_decide]
  exact lt_ceil n m _ (pow_pos' K)
/-- a number cut to an axis and made whole: what it is against whole numbers -/
theorem axis_value (x : Nat) (hx : (double.read x).isNaN = false) (e : Int) (h1 : 1 ≤ e) (h2 : e ≤ 15) :
    ∃ c : Int, (∀ m : Int, -17 ≤ m → m ≤ 17 → (ford x (floatOfInt .f64 m) == some .gt) = decide (m < c)) ∧
      ∃ t3, fint .up (fpick false .gt (Op.negFloat .f64 (floatOfInt .f64 e)) (fpick true .lt x (floatOfInt .f64 e))) = some t3 ∧ floatToIntVal .f64 t3 .i64 = some (max (-e) (min c e)) := by
  have hp := pow_pos' K
  have he := G_intK e (by omega)
  have hne := G_negK e (by omega)
  rcases kinds x with ⟨s, m, p, h, _⟩ | ⟨s, h⟩ | ⟨s, t, h⟩
  · obtain ⟨n, hn⟩ := G_K h
    refine ⟨-(-n / 2 ^ K), fun m hm1 hm2 => gt_int hn (by omega), ?_⟩
    have hg := G_max hne (G_min hn he)
    have hc := clamp_ceil n e (2 ^ K) hp h1
    exact ceil_int hg hc (by clear hc hg hp; omega)
  · obtain ⟨se, me, pe, ee⟩ := G_num he
    obtain ⟨sn, mn, pn, en⟩ := G_num hne
    have de : FloatKind.f64.decode (floatOfInt .f64 e) = .number se me pe := ee
    have dn : FloatKind.f64.decode (Op.negFloat .f64 (floatOfInt .f64 e)) = .number sn mn pn := en
    have dx : FloatKind.f64.decode x = .infinity s := h
    cases s with
    | false =>
      refine ⟨18, fun m hm1 hm2 => ?_, ?_⟩
      · obtain ⟨a, b, c, hm⟩ := G_num (G_ofInt m (by omega))
        rw [ford_eq, h, hm, decide_eq_true (by omega)]; rfl
      · have e1 : fpick true .lt x (floatOfInt .f64 e) = floatOfInt .f64 e := by
          unfold fpick
          simp only [dx, de, num_inf, num_nan, inf_ft, inf_nan, inf_zero, inf_num_order, gt_lt, Bool.or_self, Bool.false_and, Bool.false_eq_true, if_false]
        rw [e1]
        have hg := G_max hne he
        have hc := clamp_top e (2 ^ K) hp h1
        have e3 : max (-e) (min 18 e) = e := by omega
        rw [e3]
        exact ceil_int hg hc (by omega)
    | true =>
      refine ⟨-18, fun m hm1 hm2 => ?_, ?_⟩
      · obtain ⟨a, b, c, hm⟩ := G_num (G_ofInt m (by omega))
        rw [ford_eq, h, hm, decide_eq_false (by omega)]; rfl
      · have e1 : fpick true .lt x (floatOfInt .f64 e) = FloatKind.f64.encode (.infinity true) := by
          unfold fpick
          simp only [dx, inf_tt, Bool.true_or, if_true]
        have e2 : fpick false .gt (Op.negFloat .f64 (floatOfInt .f64 e)) (FloatKind.f64.encode (.infinity true)) = Op.negFloat .f64 (floatOfInt .f64 e) := by
          unfold fpick
          simp only [dec_inf, dn, num_inf, num_nan, inf_tf, inf_nan, inf_zero, num_inf_order, gt_gt, Bool.or_self, Bool.and_false, Bool.false_eq_true, if_false, if_true]
        rw [e1, e2]
        have hc := ceil_mul (-e) (2 ^ K) hp
        have e3 : max (-e) (min (-18) e) = -e := by omega
        rw [e3]
        exact ceil_int hne hc (by omega)
  · rw [h] at hx; cases hx
end Go.Proofs.Ytgfbejlggakkhaa.F64
