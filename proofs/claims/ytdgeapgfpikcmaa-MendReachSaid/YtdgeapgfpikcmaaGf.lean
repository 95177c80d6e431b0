
namespace Gf

/-- times 2 in the field -/
def xt (n : Nat) : Nat := if n < 128 then 2 * n else (2 * n - 256) ^^^ 29
/-- i times times 2 -/
def xi : Nat → Nat → Nat
  | 0, a => a
  | i + 1, a => xi i (xt a)
def lgt : List Nat := [0,0,1,25,2,50,26,198,3,223,51,238,27,104,199,75,4,100,224,14,52,141,239,129,28,193,105,248,200,8,76,113,5,138,101,47,225,36,15,33,53,147,142,218,240,18,130,69,29,181,194,125,106,39,249,185,201,154,9,120,77,228,114,166,6,191,139,98,102,221,48,253,226,152,37,179,16,145,34,136,54,208,148,206,143,150,219,189,241,210,19,92,131,56,70,64,30,66,182,163,195,72,126,110,107,58,40,84,250,133,186,61,202,94,155,159,10,21,121,43,78,212,229,172,115,243,167,87,7,112,192,247,140,128,99,13,103,74,222,237,49,197,254,24,227,165,153,119,38,184,180,124,17,68,146,217,35,32,137,46,55,63,209,91,149,188,207,205,144,135,151,178,220,252,190,97,242,86,211,171,20,42,93,158,132,60,57,83,71,109,65,162,31,45,67,216,183,123,164,118,196,23,73,236,127,12,111,246,108,161,59,82,41,157,85,170,251,96,134,177,187,204,62,90,203,89,95,176,156,169,160,81,11,245,22,235,122,117,44,215,79,174,213,233,230,231,173,232,116,214,244,234,168,80,88,175]
def lg (n : Nat) : Nat := lgt.getD n 0
theorem xt_lt : ∀ a, a < 256 → xt a < 256 := by decide +kernel
theorem xt_xor : ∀ a, a < 256 → ∀ b, b < 256 → xt (a ^^^ b) = xt a ^^^ xt b := by decide +kernel
theorem xi_lg : ∀ n, n < 256 → n = 0 ∨ xi (lg n) 1 = n := by decide +kernel
theorem xi_255 : xi 255 1 = 1 := by decide +kernel
theorem xi_one : ∀ d, d < 255 → d = 0 ∨ xi d 1 ≠ 1 := by decide +kernel

theorem xi_lt (i : Nat) : ∀ a, a < 256 → xi i a < 256 := by
  induction i with
  | zero => intro a h; exact h
  | succ i ih => intro a h; exact ih _ (xt_lt _ h)
theorem xor_lt {a b : Nat} (ha : a < 256) (hb : b < 256) : a ^^^ b < 256 := Nat.xor_lt_two_pow (n := 8) ha hb
theorem xi_xor (i : Nat) : ∀ a b, a < 256 → b < 256 → xi i (a ^^^ b) = xi i a ^^^ xi i b := by
  induction i with
  | zero => intro a b _ _; rfl
  | succ i ih => intro a b ha hb; show xi i (xt _) = xi i (xt _) ^^^ xi i (xt _); rw [xt_xor a ha b hb]; exact ih _ _ (xt_lt _ ha) (xt_lt _ hb)
theorem xi_add (i j a : Nat) : xi (i + j) a = xi i (xi j a) := by
  induction j generalizing a with
  | zero => rfl
  | succ j ih => show xi (i + j) (xt a) = xi i (xi j (xt a)); exact ih _
theorem xt_zero : xt 0 = 0 := rfl
theorem xi_zero (i : Nat) : xi i 0 = 0 := by
  induction i with
  | zero => rfl
  | succ i ih => show xi i (xt 0) = 0; rw [xt_zero]; exact ih
theorem xi_comm (i j a : Nat) : xi i (xi j a) = xi j (xi i a) := by rw [← xi_add, ← xi_add, Nat.add_comm]
theorem xi_cases (a : Nat) (h : a < 256) : a = 0 ∨ ∃ i, i < 255 ∧ a = xi i 1 := by
  rcases xi_lg a h with h0 | h1
  · exact Or.inl h0
  · refine Or.inr ⟨lg a, ?_, h1.symm⟩
    have : ∀ n, n < 256 → lg n < 255 := by decide +kernel
    exact this a h
theorem xi_255a (a : Nat) (h : a < 256) : xi 255 a = a := by
  rcases xi_cases a h with rfl | ⟨i, _, rfl⟩
  · exact xi_zero _
  · rw [xi_comm, xi_255]
theorem xi_mul255 (k : Nat) (a : Nat) (h : a < 256) : xi (255 * k) a = a := by
  induction k with
  | zero => rfl
  | succ k ih => rw [Nat.mul_succ, xi_add, xi_255a a h, ih]
theorem xi_mod (i a : Nat) (h : a < 256) : xi (i % 255) a = xi i a := by
  conv => rhs; rw [← Nat.mod_add_div i 255, xi_add, xi_mul255 _ a h]
theorem xi_ne_zero (i : Nat) (a : Nat) (h : a < 256) (ha : a ≠ 0) : xi i a ≠ 0 := by
  intro h0
  apply ha
  have h1 : xi (255 * (i / 255 + 1) - i) (xi i a) = a := by
    rw [← xi_add, Nat.sub_add_cancel (by omega), xi_mul255 _ a h]
  rw [h0, xi_zero] at h1
  exact h1.symm
/-- a power of 2 tells its place below 255 -/
theorem xi_inj {i j : Nat} (hi : i < 255) (hj : j < 255) (h : xi i 1 = xi j 1) : i = j := by
  have key : ∀ i j, i < 255 → j < 255 → i ≤ j → xi i 1 = xi j 1 → i = j := by
    intro i j hi hj hij h
    have e : xi (255 - i) (xi i 1) = xi (255 - i) (xi j 1) := by rw [h]
    rw [← xi_add, ← xi_add, show 255 - i + i = 255 from by omega, xi_255] at e
    have e2 : xi (j - i) 1 = 1 := by
      have : 255 - i + j = (j - i) + 255 := by omega
      rw [this, xi_add, xi_255] at e
      exact e.symm
    rcases xi_one (j - i) (by omega) with h0 | h1
    · omega
    · exact absurd e2 h1
  by_cases hij : i ≤ j
  · exact key i j hi hj hij h
  · exact (key j i hj hi (by omega) h.symm).symm

/-- a number of the field -/
structure G where
  n : Nat
  lt : n < 256
theorem G.ext {a b : G} (h : a.n = b.n) : a = b := by
  cases a; cases b; cases h; rfl
instance : DecidableEq G := fun a b => if h : a.n = b.n then isTrue (G.ext h) else isFalse (fun e => h (e ▸ rfl))
/-- the sum: exclusive or -/
instance : Add G := ⟨fun a b => ⟨a.n ^^^ b.n, xor_lt a.lt b.lt⟩⟩
/-- the product, by the second one's logarithm -/
instance : Mul G := ⟨fun a b => if b.n = 0 then ⟨0, by decide⟩ else ⟨xi (lg b.n) a.n, xi_lt _ _ a.lt⟩⟩
def g0 : G := ⟨0, by decide⟩
def g1 : G := ⟨1, by decide⟩
/-- 2 to the power of i -/
def px (i : Nat) : G := ⟨xi i 1, xi_lt _ _ (by decide)⟩
theorem add_n (a b : G) : (a + b).n = a.n ^^^ b.n := rfl
theorem add_comm (a b : G) : a + b = b + a := G.ext (Nat.xor_comm _ _)
theorem add_assoc (a b c : G) : a + b + c = a + (b + c) := G.ext (Nat.xor_assoc _ _ _)
theorem add_self (a : G) : a + a = g0 := G.ext (Nat.xor_self _)
theorem add_zero (a : G) : a + g0 = a := G.ext (Nat.xor_zero _)
theorem zero_add (a : G) : g0 + a = a := G.ext (Nat.zero_xor _)
instance : Std.Associative (α := G) (· + ·) := ⟨add_assoc⟩
instance : Std.Commutative (α := G) (· + ·) := ⟨add_comm⟩
theorem mul_zero (a : G) : a * g0 = g0 := rfl
theorem px_n (i : Nat) : (px i).n = xi i 1 := rfl
theorem px_ne (i : Nat) : px i ≠ g0 := fun h => xi_ne_zero i 1 (by decide) (by decide) (congrArg G.n h)
theorem mul_px (a : G) (j : Nat) : (a * px j).n = xi j a.n := by
  have hj := xi_lt j 1 (by decide)
  have hne := xi_ne_zero j 1 (by decide) (by decide)
  have e : a * px j = ⟨xi (lg (px j).n) a.n, xi_lt _ _ a.lt⟩ := if_neg hne
  rw [e]
  show xi (lg (xi j 1)) a.n = xi j a.n
  rcases xi_lg (xi j 1) hj with h0 | h1
  · exact absurd h0 hne
  · rcases xi_cases a.n a.lt with ha | ⟨i, _, ha⟩
    · rw [ha, xi_zero, xi_zero]
    · rw [ha, xi_comm, h1, xi_comm]
theorem cases_px (a : G) : a = g0 ∨ ∃ i, i < 255 ∧ a = px i := by
  rcases xi_cases a.n a.lt with h | ⟨i, hi, h⟩
  · exact Or.inl (G.ext h)
  · exact Or.inr ⟨i, hi, G.ext h⟩
theorem px_mul_px (i j : Nat) : px i * px j = px (i + j) := G.ext (by rw [mul_px, px_n, px_n, Nat.add_comm, xi_add])
theorem zero_mul (a : G) : g0 * a = g0 := by
  rcases cases_px a with rfl | ⟨i, _, rfl⟩
  · rfl
  · exact G.ext (by rw [mul_px]; exact xi_zero _)
theorem mul_comm (a b : G) : a * b = b * a := by
  rcases cases_px a with rfl | ⟨i, _, rfl⟩
  · rw [zero_mul, mul_zero]
  · rcases cases_px b with rfl | ⟨j, _, rfl⟩
    · rw [zero_mul, mul_zero]
    · rw [px_mul_px, px_mul_px, Nat.add_comm]
theorem mul_assoc (a b c : G) : a * b * c = a * (b * c) := by
  rcases cases_px c with rfl | ⟨k, _, rfl⟩
  · rw [mul_zero, mul_zero, mul_zero]
  · rcases cases_px b with rfl | ⟨j, _, rfl⟩
    · rw [zero_mul, mul_zero, zero_mul]
    · rw [px_mul_px]; exact G.ext (by rw [mul_px, mul_px, mul_px, Nat.add_comm, xi_add])
theorem add_mul (a b c : G) : (a + b) * c = a * c + b * c := by
  rcases cases_px c with rfl | ⟨k, _, rfl⟩
  · rw [mul_zero, mul_zero, mul_zero, add_zero]
  · exact G.ext (by rw [mul_px, add_n, add_n, mul_px, mul_px, xi_xor _ _ _ a.lt b.lt])
theorem mul_add (a b c : G) : a * (b + c) = a * b + a * c := by rw [mul_comm, add_mul, mul_comm b, mul_comm c]
theorem px_zero : px 0 = g1 := rfl
theorem mul_one (a : G) : a * g1 = a := by rw [← px_zero]; exact G.ext (by rw [mul_px]; rfl)
theorem one_mul (a : G) : g1 * a = a := by rw [mul_comm, mul_one]
instance : Std.Associative (α := G) (· * ·) := ⟨mul_assoc⟩
instance : Std.Commutative (α := G) (· * ·) := ⟨mul_comm⟩
theorem mul_ne {a b : G} (ha : a ≠ g0) (hb : b ≠ g0) : a * b ≠ g0 := by
  rcases cases_px a with rfl | ⟨i, _, rfl⟩
  · exact absurd rfl ha
  · rcases cases_px b with rfl | ⟨j, _, rfl⟩
    · exact absurd rfl hb
    · rw [px_mul_px]; exact px_ne _
theorem mul_eq {a b : G} (h : a * b = g0) : a = g0 ∨ b = g0 := by
  by_cases ha : a = g0
  · exact Or.inl ha
  · by_cases hb : b = g0
    · exact Or.inr hb
    · exact absurd h (mul_ne ha hb)
theorem one_ne : g1 ≠ g0 := by decide
theorem px_mod (i : Nat) : px (i % 255) = px i := G.ext (xi_mod i 1 (by decide))
theorem px_inj {i j : Nat} (hi : i < 255) (hj : j < 255) (h : px i = px j) : i = j := xi_inj hi hj (congrArg G.n h)
theorem add_eq {a b : G} : a + b = g0 ↔ a = b := by
  constructor
  · intro h
    have : a + b + b = g0 + b := by rw [h]
    rw [add_assoc, add_self, add_zero, zero_add] at this
    exact this
  · rintro rfl; exact add_self a
theorem mul_cancel {a b c : G} (h : c ≠ g0) (e : a * c = b * c) : a = b := by
  have : (a + b) * c = g0 := by rw [add_mul, e, add_self]
  rcases mul_eq this with h1 | h1
  · exact add_eq.1 h1
  · exact absurd h1 h

/-- a power -/
def pw (a : G) : Nat → G
  | 0 => g1
  | k + 1 => pw a k * a
theorem pw_add (a : G) (i j : Nat) : pw a (i + j) = pw a i * pw a j := by
  induction j with
  | zero => exact (mul_one _).symm
  | succ j ih => show pw a (i + j) * a = pw a i * (pw a j * a); rw [ih, mul_assoc]
theorem pw_mul (a b : G) (i : Nat) : pw (a * b) i = pw a i * pw b i := by
  induction i with
  | zero => exact (mul_one _).symm
  | succ i ih => show pw (a * b) i * (a * b) = pw a i * a * (pw b i * b); rw [ih]; ac_rfl
theorem pw_one (i : Nat) : pw g1 i = g1 := by
  induction i with
  | zero => rfl
  | succ i ih => show pw g1 i * g1 = g1; rw [ih, mul_one]
theorem pw_ne {a : G} (h : a ≠ g0) (i : Nat) : pw a i ≠ g0 := by
  induction i with
  | zero => exact one_ne
  | succ i ih => exact mul_ne ih h
theorem pw_px (i j : Nat) : pw (px i) j = px (i * j) := by
  induction j with
  | zero => rfl
  | succ j ih => show pw (px i) j * px i = px (i * (j + 1)); rw [ih, px_mul_px, Nat.mul_succ]
theorem pw_pw (a : G) (i j : Nat) : pw (pw a i) j = pw a (i * j) := by
  induction j with
  | zero => rfl
  | succ j ih => show pw (pw a i) j * pw a i = pw a (i * (j + 1)); rw [ih, Nat.mul_succ, pw_add]

/-- a sum of n terms -/
def sm : Nat → (Nat → G) → G
  | 0, _ => g0
  | n + 1, f => sm n f + f n
theorem sm_congr {n : Nat} {f g : Nat → G} (h : ∀ i, i < n → f i = g i) : sm n f = sm n g := by
  induction n with
  | zero => rfl
  | succ n ih => show sm n f + f n = sm n g + g n; rw [ih (fun i hi => h i (by omega)), h n (by omega)]
theorem sm_zero {n : Nat} {f : Nat → G} (h : ∀ i, i < n → f i = g0) : sm n f = g0 := by
  induction n with
  | zero => rfl
  | succ n ih => show sm n f + f n = g0; rw [ih (fun i hi => h i (by omega)), h n (by omega)]; rfl
theorem sm_add (n : Nat) (f g : Nat → G) : sm n (fun i => f i + g i) = sm n f + sm n g := by
  induction n with
  | zero => exact (add_zero _).symm
  | succ n ih => show sm n (fun i => f i + g i) + (f n + g n) = sm n f + f n + (sm n g + g n); rw [ih]; ac_rfl
theorem sm_mul (n : Nat) (c : G) (f : Nat → G) : sm n (fun i => c * f i) = c * sm n f := by
  induction n with
  | zero => exact (mul_zero c).symm
  | succ n ih => show sm n (fun i => c * f i) + c * f n = c * (sm n f + f n); rw [ih, mul_add]
theorem sm_mul' (n : Nat) (c : G) (f : Nat → G) : sm n (fun i => f i * c) = sm n f * c := by
  rw [mul_comm, ← sm_mul]; exact sm_congr fun i _ => mul_comm _ _
theorem sm_comm (n m : Nat) (f : Nat → Nat → G) : sm n (fun i => sm m (fun j => f i j)) = sm m (fun j => sm n (fun i => f i j)) := by
  induction n with
  | zero => exact (sm_zero fun _ _ => rfl).symm
  | succ n ih => show sm n (fun i => sm m (fun j => f i j)) + sm m (fun j => f n j) = _; rw [ih, ← sm_add]; rfl
theorem sm_split (m n : Nat) (f : Nat → G) : sm (m + n) f = sm m f + sm n (fun i => f (m + i)) := by
  induction n with
  | zero => exact (add_zero _).symm
  | succ n ih => show sm (m + n) f + f (m + n) = sm m f + (sm n (fun i => f (m + i)) + f (m + n)); rw [ih, add_assoc]
theorem sm_more {m n : Nat} (f : Nat → G) (h : m ≤ n) (hz : ∀ i, m ≤ i → i < n → f i = g0) : sm n f = sm m f := by
  obtain ⟨k, rfl⟩ : ∃ k, n = m + k := ⟨n - m, by omega⟩
  rw [sm_split, sm_zero (n := k) (fun i hi => hz (m + i) (by omega) (by omega)), add_zero]
theorem sm_one {n : Nat} (f : Nat → G) (k : Nat) (hk : k < n) (h : ∀ i, i < n → i ≠ k → f i = g0) : sm n f = f k := by
  induction n with
  | zero => omega
  | succ n ih =>
    show sm n f + f n = f k
    by_cases e : k = n
    · subst e; rw [sm_zero fun i hi => h i (by omega) (by omega), zero_add]
    · rw [ih (by omega) fun i hi hne => h i (by omega) hne, h n (by omega) (by omega), add_zero]
/-- the same term n times -/
theorem sm_const (n : Nat) (c : G) : sm n (fun _ => c) = if n % 2 = 1 then c else g0 := by
  induction n with
  | zero => rfl
  | succ n ih =>
    show sm n (fun _ => c) + c = _
    rw [ih]
    by_cases h : n % 2 = 1
    · rw [if_pos h, if_neg (by omega), add_self]
    · rw [if_neg h, if_pos (by omega), zero_add]
end Gf

namespace Gf

/-- how many i below n have P -/
def cnt : Nat → (Nat → Bool) → Nat
  | 0, _ => 0
  | n + 1, P => cnt n P + (if P n = true then 1 else 0)
theorem cnt_le {n : Nat} {P Q : Nat → Bool} (h : ∀ i, i < n → P i = true → Q i = true) : cnt n P ≤ cnt n Q := by
  induction n with
  | zero => exact Nat.le_refl _
  | succ n ih =>
    have := ih (fun i hi => h i (by omega))
    show cnt n P + _ ≤ cnt n Q + _
    by_cases hp : P n = true
    · rw [if_pos hp, if_pos (h n (by omega) hp)]; omega
    · rw [if_neg hp]; omega
theorem cnt_lt {n : Nat} {P Q : Nat → Bool} (h : ∀ i, i < n → P i = true → Q i = true) (k : Nat) (hk : k < n) (hq : Q k = true) (hp : P k = false) : cnt n P < cnt n Q := by
  induction n with
  | zero => omega
  | succ n ih =>
    show cnt n P + _ < cnt n Q + _
    by_cases e : k = n
    · subst e
      have := cnt_le (n := k) (P := P) (Q := Q) (fun i hi => h i (by omega))
      rw [hp, hq]; simp; omega
    · have := ih (fun i hi => h i (by omega)) (by omega)
      by_cases hp : P n = true
      · rw [if_pos hp, if_pos (h n (by omega) hp)]; omega
      · rw [if_neg hp]; omega
theorem cnt_zero {n : Nat} {P : Nat → Bool} (h : cnt n P = 0) (i : Nat) (hi : i < n) : P i = false := by
  cases hp : P i with
  | false => rfl
  | true =>
    have := cnt_lt (n := n) (P := fun _ => false) (Q := P) (fun _ _ h => by cases h) i hi hp rfl
    omega
theorem cnt_none (n : Nat) : cnt n (fun _ => false) = 0 := by
  induction n with
  | zero => rfl
  | succ n ih => show cnt n _ + 0 = 0; rw [ih]
theorem cnt_pos {n : Nat} {P : Nat → Bool} (h : 0 < cnt n P) : ∃ i, i < n ∧ P i = true := by
  induction n with
  | zero => exact absurd h (Nat.lt_irrefl 0)
  | succ n ih =>
    by_cases hp : P n = true
    · exact ⟨n, by omega, hp⟩
    · have : cnt n P + (if P n = true then 1 else 0) > 0 := h
      rw [if_neg hp] at this
      obtain ⟨i, hi, hq⟩ := ih this
      exact ⟨i, by omega, hq⟩
theorem cnt_congr {n : Nat} {P Q : Nat → Bool} (h : ∀ i, i < n → P i = Q i) : cnt n P = cnt n Q :=
  Nat.le_antisymm (cnt_le fun i hi hp => by rw [← h i hi]; exact hp) (cnt_le fun i hi hp => by rw [h i hi]; exact hp)
theorem cnt_or {n : Nat} {P Q : Nat → Bool} (h : ∀ i, i < n → P i = true → Q i = false) : cnt n (fun i => P i || Q i) = cnt n P + cnt n Q := by
  induction n with
  | zero => rfl
  | succ n ih =>
    show cnt n _ + (if (P n || Q n) = true then 1 else 0) = cnt n P + (if P n = true then 1 else 0) + (cnt n Q + (if Q n = true then 1 else 0))
    rw [ih (fun i hi => h i (by omega))]
    cases hp : P n with
    | true => rw [h n (by omega) hp]; simp only [Bool.true_or, if_true, Bool.false_eq_true, if_false]; omega
    | false => simp only [Bool.false_or, Bool.false_eq_true, if_false]; omega
/-- one place less -/
theorem cnt_but {n : Nat} {P : Nat → Bool} (k : Nat) (hk : k < n) (hp : P k = true) : cnt n (fun i => P i && decide (i ≠ k)) + 1 = cnt n P := by
  have e : cnt n P = cnt n (fun i => (P i && decide (i ≠ k)) || decide (i = k)) := cnt_congr fun i hi => by
    by_cases e : i = k
    · subst e; simp [hp]
    · simp [e]
  rw [e, cnt_or (fun i hi h => by simp at h; simp [h.2])]
  have : cnt n (fun i => decide (i = k)) = 1 := by
    clear e hp
    induction n with
    | zero => omega
    | succ n ih =>
      show cnt n _ + _ = 1
      by_cases e : k = n
      · subst e
        have : cnt k (fun i => decide (i = k)) = 0 := by
          rw [cnt_congr (Q := fun _ => false) (fun i hi => by simp; omega), cnt_none]
        rw [this]; simp
      · rw [ih (by omega)]
        have : ¬ n = k := by omega
        simp [this]
  rw [this]

/-- VANDERMONDE: as many sums of powers as there are numbers, all 0: the numbers are 0 -/
theorem vander (n : Nat) (X : Nat → G) (hX : ∀ i, i < n → X i ≠ g0) (hinj : ∀ i j, i < n → j < n → X i = X j → i = j) :
    ∀ (v : Nat) (c : Nat → G) (J : Nat), cnt n (fun i => decide (c i ≠ g0)) ≤ v → (∀ j, J ≤ j → j < J + v → sm n (fun i => c i * pw (X i) j) = g0) → ∀ i, i < n → c i = g0 := by
  intro v
  induction v with
  | zero =>
    intro c J hc _ i hi
    have := cnt_zero (by omega : cnt n (fun i => decide (c i ≠ g0)) = 0) i hi
    simpa using this
  | succ v ih =>
    intro c J hc hs i hi
    by_cases hall : ∃ k, k < n ∧ c k ≠ g0
    · exfalso
      obtain ⟨k, hk, hck⟩ := hall
      have h1 : ∀ i, i < n → c i * (X i + X k) = g0 := by
        apply ih (fun i => c i * (X i + X k)) J
        · have := cnt_lt (n := n) (P := fun i => decide (c i * (X i + X k) ≠ g0)) (Q := fun i => decide (c i ≠ g0)) (fun i _ h => by
            simp at h ⊢; intro h0; exact h (by rw [h0, zero_mul])) k hk (by simpa using hck) (by simp [add_self, mul_zero])
          omega
        · intro j hj hj2
          have e1 := hs (j + 1) (by omega) (by omega)
          have e2 := hs j (by omega) (by omega)
          have : sm n (fun i => c i * (X i + X k) * pw (X i) j) = sm n (fun i => c i * pw (X i) (j + 1)) + X k * sm n (fun i => c i * pw (X i) j) := by
            rw [← sm_mul, ← sm_add]
            apply sm_congr
            intro i hi
            show c i * (X i + X k) * pw (X i) j = c i * (pw (X i) j * X i) + X k * (c i * pw (X i) j)
            rw [mul_add, add_mul]; ac_rfl
          rw [this, e1, e2, mul_zero, add_zero]
      have h2 : ∀ i, i < n → i ≠ k → c i = g0 := by
        intro i hi hne
        rcases mul_eq (h1 i hi) with h | h
        · exact h
        · exact absurd (hinj i k hi hk (add_eq.1 h)) hne
      have h3 := hs J (Nat.le_refl _) (by omega)
      rw [sm_one _ k hk (fun i hi hne => by rw [h2 i hi hne, zero_mul])] at h3
      exact mul_ne hck (pw_ne (hX k hk) J) h3
    · by_cases h0 : c i = g0
      · exact h0
      · exact absurd ⟨i, hi, h0⟩ hall

/-! ### polynomials as lists: no more roots than the degree -/
def ev : List G → G → G
  | [], _ => g0
  | c :: l, x => c + x * ev l x
def syn (a : G) : List G → List G
  | [] => []
  | d :: m => ev (d :: m) a :: syn a m
theorem syn_len (a : G) (l : List G) : (syn a l).length = l.length := by
  induction l with
  | nil => rfl
  | cons d m ih => show (syn a m).length + 1 = m.length + 1; rw [ih]
theorem syn_ev (a x c : G) (l : List G) : ev (c :: l) x = ev (c :: l) a + (x + a) * ev (syn a l) x := by
  induction l generalizing c with
  | nil => show c + x * g0 = c + a * g0 + (x + a) * g0; simp only [mul_zero, add_zero]
  | cons d m ih =>
    have h := ih d
    show c + x * ev (d :: m) x = c + a * ev (d :: m) a + (x + a) * (ev (d :: m) a + x * ev (syn a m) x)
    rw [h]
    generalize ev (d :: m) a = p
    generalize ev (syn a m) x = q
    rw [mul_add, mul_add, add_mul, add_mul]
    rw [add_assoc]
    congr 1
    have : a * p + (x * p + a * p + (x + a) * (x * q)) = x * p + (a * p + a * p) + (x + a) * (x * q) := by ac_rfl
    rw [this, add_self, add_zero]
    congr 1
    rw [add_mul, mul_add]; ac_rfl
theorem syn_zero (a : G) (l : List G) (h : ∀ c, c ∈ syn a l → c = g0) : ∀ c, c ∈ l → c = g0 := by
  induction l with
  | nil => intro c hc; cases hc
  | cons d m ih =>
    have h1 := ih (fun c hc => h c (List.mem_cons_of_mem _ hc))
    have h2 : ev (d :: m) a = g0 := h _ List.mem_cons_self
    have h3 : ∀ l : List G, (∀ c, c ∈ l → c = g0) → ev l a = g0 := by
      intro l
      induction l with
      | nil => intro _; rfl
      | cons e q ih2 => intro h; show e + a * ev q a = g0; rw [ih2 (fun c hc => h c (List.mem_cons_of_mem _ hc)), h e List.mem_cons_self, mul_zero]; rfl
    have h4 : d + a * ev m a = g0 := h2
    rw [h3 m h1, mul_zero, add_zero] at h4
    intro c hc
    rcases List.mem_cons.1 hc with rfl | hc
    · exact h4
    · exact h1 c hc
theorem ev_zero (l : List G) (x : G) (h : ∀ c, c ∈ l → c = g0) : ev l x = g0 := by
  induction l with
  | nil => rfl
  | cons e q ih => show e + x * ev q x = g0; rw [ih (fun c hc => h c (List.mem_cons_of_mem _ hc)), h e List.mem_cons_self, mul_zero]; rfl
/-- a polynomial with as many roots as it has terms is nought -/
theorem roots (n : Nat) (Y : Nat → G) (hinj : ∀ i j, i < n → j < n → Y i = Y j → i = j) :
    ∀ (m : Nat) (p : List G) (Z : Nat → Bool), p.length = m → m ≤ cnt n Z → (∀ i, i < n → Z i = true → ev p (Y i) = g0) → ∀ c, c ∈ p → c = g0 := by
  intro m
  induction m with
  | zero => intro p Z hp _ _ c hc; rw [List.eq_nil_of_length_eq_zero hp] at hc; cases hc
  | succ m ih =>
    intro p Z hp hm hz
    obtain ⟨d, l, rfl⟩ : ∃ d l, p = d :: l := by cases p with | nil => cases hp | cons d l => exact ⟨d, l, rfl⟩
    have hl : l.length = m := by simpa using hp
    obtain ⟨k, hk, hZk⟩ := cnt_pos (n := n) (P := Z) (by omega)
    have hrk := hz k hk hZk
    have h1 : ∀ c, c ∈ syn (Y k) l → c = g0 := by
      refine ih (syn (Y k) l) (fun i => Z i && decide (i ≠ k)) (by rw [syn_len, hl]) ?_ ?_
      · have := cnt_but k hk hZk; omega
      · intro i hi hZ
        simp only [Bool.and_eq_true, decide_eq_true_eq] at hZ
        have e := syn_ev (Y k) (Y i) d l
        rw [hz i hi hZ.1, hrk, zero_add] at e
        rcases mul_eq e.symm with h | h
        · exact absurd (hinj i k hi hk (add_eq.1 h)) hZ.2
        · exact h
    have h2 := syn_zero _ _ h1
    have h3 : d + Y k * ev l (Y k) = g0 := hrk
    rw [ev_zero l _ h2, mul_zero, add_zero] at h3
    intro c hc
    rcases List.mem_cons.1 hc with rfl | hc
    · exact h3
    · exact h2 c hc

/-- a polynomial by its terms, at a number -/
def evf (P : Nat → G) (m : Nat) (x : G) : G := sm m (fun k => P k * pw x k)
theorem sm_shift (n : Nat) (f : Nat → G) : sm (n + 1) f = f 0 + sm n (fun i => f (i + 1)) := by
  induction n with
  | zero => show g0 + f 0 = f 0 + g0; rw [add_comm]
  | succ n ih => show sm (n + 1) f + f (n + 1) = f 0 + (sm n (fun i => f (i + 1)) + f (n + 1)); rw [ih, add_assoc]
theorem ev_map (m : Nat) (s : Nat) (P : Nat → G) (x : G) : ev ((List.range' s m).map P) x = sm m (fun k => P (s + k) * pw x k) := by
  induction m generalizing s with
  | zero => rfl
  | succ m ih =>
    rw [List.range'_succ, List.map_cons]
    show P s + x * ev _ x = _
    rw [ih (s + 1), sm_shift]
    show _ = P (s + 0) * g1 + sm m (fun i => P (s + (i + 1)) * (pw x i * x))
    rw [mul_one, ← sm_mul]
    congr 1
    apply sm_congr
    intro i _
    rw [show s + 1 + i = s + (i + 1) from by omega]; ac_rfl
theorem roots_fun (n : Nat) (Y : Nat → G) (hinj : ∀ i j, i < n → j < n → Y i = Y j → i = j) (m : Nat) (P : Nat → G) (Z : Nat → Bool)
    (hm : m ≤ cnt n Z) (hz : ∀ i, i < n → Z i = true → evf P m (Y i) = g0) : ∀ k, k < m → P k = g0 := by
  have h := roots n Y hinj m ((List.range' 0 m).map P) Z (by simp) hm (fun i hi hZ => by
    rw [ev_map]; have := hz i hi hZ; unfold evf at this; simpa using this)
  intro k hk
  exact h (P k) (List.mem_map.2 ⟨k, by simp [List.mem_range']; omega, rfl⟩)

/-- the term number j of a product -/
def conv (P S : Nat → G) (j : Nat) : G := sm (j + 1) (fun k => P k * S (j - k))
/-- sums of powers -/
def syd (n : Nat) (e X : Nat → G) (j : Nat) : G := sm n (fun i => e i * pw (X i) j)
theorem pw_sub {x y : G} (h : x * y = g1) {j k : Nat} (hk : k ≤ j) : pw x (j - k) = pw x j * pw y k := by
  obtain ⟨t, rfl⟩ : ∃ t, j = t + k := ⟨j - k, by omega⟩
  rw [Nat.add_sub_cancel, pw_add, mul_assoc, ← pw_mul, h, pw_one, mul_one]
theorem evf_more {P : Nat → G} {m d : Nat} (x : G) (h : d ≤ m) (hz : ∀ k, d ≤ k → P k = g0) : evf P m x = evf P d x :=
  sm_more _ h (fun i hi _ => by rw [hz i hi, zero_mul])
theorem conv_syd (n : Nat) (e X Y : Nat → G) (hXY : ∀ i, i < n → X i * Y i = g1) (P : Nat → G) (j : Nat) :
    conv P (syd n e X) j = sm n (fun i => e i * evf P (j + 1) (Y i) * pw (X i) j) := by
  have h1 : conv P (syd n e X) j = sm (j + 1) (fun k => sm n (fun i => P k * (e i * pw (X i) (j - k)))) := sm_congr fun k _ => (sm_mul n (P k) _).symm
  rw [h1, sm_comm]
  apply sm_congr
  intro i hi
  show _ = e i * sm (j + 1) (fun k => P k * pw (Y i) k) * pw (X i) j
  rw [← sm_mul, ← sm_mul']
  apply sm_congr
  intro k hk
  rw [pw_sub (hXY i hi) (by omega)]; ac_rfl
/-- with v sums of a product that are 0 all of them are: what is not 0 of the numbers stands where the polynomial is 0 -/
theorem conv_key (n : Nat) (e X Y : Nat → G) (hX : ∀ i, i < n → X i ≠ g0) (hXY : ∀ i, i < n → X i * Y i = g1) (hinj : ∀ i j, i < n → j < n → X i = X j → i = j)
    (lost : Nat → Bool) (v : Nat) (hv : cnt n (fun i => decide (e i ≠ g0) && !lost i) ≤ v) (P : Nat → G) (m : Nat) (hP : ∀ k, m ≤ k → P k = g0)
    (hl : ∀ i, i < n → lost i = true → evf P m (Y i) = g0) (J : Nat) (hJ : m ≤ J + 1) (hz : ∀ j, J ≤ j → j < J + v → conv P (syd n e X) j = g0) :
    (∀ i, i < n → e i * evf P m (Y i) = g0) ∧ ∀ j, m ≤ j + 1 → conv P (syd n e X) j = g0 := by
  have h1 : ∀ i, i < n → e i * evf P m (Y i) = g0 := by
    apply vander n X hX hinj v (fun i => e i * evf P m (Y i)) J
    · refine Nat.le_trans (cnt_le fun i hi h => ?_) hv
      simp only [decide_eq_true_eq, ne_eq, Bool.and_eq_true, Bool.not_eq_true'] at h ⊢
      refine ⟨fun h0 => h (by rw [h0, zero_mul]), ?_⟩
      cases hlo : lost i with
      | false => rfl
      | true => exact absurd (by rw [hl i hi hlo, mul_zero]) h
    · intro j hj hj2
      rw [← hz j hj hj2, conv_syd n e X Y hXY]
      apply sm_congr
      intro i hi
      rw [evf_more (m := j + 1) (d := m) (Y i) (by omega) hP]
  refine ⟨h1, fun j hj => ?_⟩
  rw [conv_syd n e X Y hXY]
  apply sm_zero
  intro i hi
  rw [evf_more (m := j + 1) (d := m) (Y i) hj hP, h1 i hi, zero_mul]

/-- the step of the program: a polynomial, less another one moved up by some places -/
def upd (A B : Nat → G) (by_ : G) (gap : Nat) (k : Nat) : G := if gap ≤ k then A k + by_ * B (k - gap) else A k
theorem sm_drop (g j : Nat) (f : Nat → G) (h : g ≤ j) (hz : ∀ k, k < g → f k = g0) : sm (j + 1) f = sm (j - g + 1) (fun k => f (g + k)) := by
  obtain ⟨t, rfl⟩ : ∃ t, j = g + t := ⟨j - g, by omega⟩
  rw [show g + t + 1 = g + (t + 1) from by omega, sm_split, sm_zero hz, zero_add, Nat.add_sub_cancel_left]
theorem conv_upd (A B S : Nat → G) (c : G) (gap j : Nat) : conv (upd A B c gap) S j = if gap ≤ j then conv A S j + c * conv B S (j - gap) else conv A S j := by
  have h1 : conv (upd A B c gap) S j = conv A S j + sm (j + 1) (fun k => if gap ≤ k then c * B (k - gap) * S (j - k) else g0) := by
    unfold conv
    rw [← sm_add]
    apply sm_congr
    intro k _
    unfold upd
    by_cases h : gap ≤ k
    · rw [if_pos h, if_pos h, add_mul]
    · rw [if_neg h, if_neg h, add_zero]
  rw [h1]
  by_cases h : gap ≤ j
  · rw [if_pos h]
    congr 1
    rw [sm_drop gap j _ h (fun k hk => if_neg (by omega))]
    unfold conv
    rw [← sm_mul]
    apply sm_congr
    intro k hk
    show (if gap ≤ gap + k then c * B (gap + k - gap) * S (j - (gap + k)) else g0) = c * (B k * S (j - gap - k))
    rw [if_pos (by omega), Nat.add_sub_cancel_left, mul_assoc, show j - (gap + k) = j - gap - k from by omega]
  · rw [if_neg h, sm_zero (fun k hk => if_neg (by omega)), add_zero]
theorem evf_upd (A B : Nat → G) (c : G) (gap m : Nat) (x : G) (hA : evf A m x = g0) (hB : evf B (m - gap) x = g0) : evf (upd A B c gap) m x = g0 := by
  have h1 : evf (upd A B c gap) m x = evf A m x + sm m (fun k => if gap ≤ k then c * B (k - gap) * pw x k else g0) := by
    unfold evf
    rw [← sm_add]
    apply sm_congr
    intro k _
    unfold upd
    by_cases h : gap ≤ k
    · rw [if_pos h, if_pos h, add_mul]
    · rw [if_neg h, if_neg h, add_zero]
  rw [h1, hA, zero_add]
  by_cases h : gap < m
  · obtain ⟨t, rfl⟩ : ∃ t, m = t + 1 := ⟨m - 1, by omega⟩
    rw [sm_drop gap t _ (by omega) (fun k hk => if_neg (by omega))]
    have : sm (t - gap + 1) (fun k => if gap ≤ gap + k then c * B (gap + k - gap) * pw x (gap + k) else g0) = c * pw x gap * evf B (t + 1 - gap) x := by
      unfold evf
      rw [← sm_mul, show t + 1 - gap = t - gap + 1 from by omega]
      apply sm_congr
      intro k _
      rw [if_pos (by omega), Nat.add_sub_cancel_left, pw_add]; ac_rfl
    rw [this, hB, mul_zero]
  · exact sm_zero (fun k hk => if_neg (by omega))

/-- where the search stands ahead of place n -/
structure Inv (S : Nat → G) (f n : Nat) (A B : Nat → G) (l gap : Nat) (b : G) : Prop where
  fl : f ≤ l
  ln : l ≤ n
  a0 : A 0 = g1
  ad : ∀ k, l < k → A k = g0
  az : ∀ j, l ≤ j → j < n → conv A S j = g0
  gp : 1 ≤ gap
  gn : gap + f ≤ n + 1
  bn : b ≠ g0
  bd : ∀ k, n + 1 + f < k + gap + l → B k = g0
  bz : ∀ j, n + 1 + f ≤ j + gap + l → j + gap < n → conv B S j = g0
  bb : (l = f ∧ gap + f = n + 1) ∨ (gap ≤ n ∧ conv B S (n - gap) = b)
theorem Inv.start (S : Nat → G) (f : Nat) (A : Nat → G) (h0 : A 0 = g1) (hd : ∀ k, f < k → A k = g0) : Inv S f f A A f 1 g1 :=
  ⟨Nat.le_refl _, Nat.le_refl _, h0, hd, fun j h1 h2 => by omega, Nat.le_refl _, by omega, one_ne, fun k hk => hd k (by omega), fun j h1 h2 => by omega, .inl ⟨rfl, by omega⟩⟩
theorem Inv.same {S : Nat → G} {f n : Nat} {A B : Nat → G} {l gap : Nat} {b : G} (h : Inv S f n A B l gap b) (hz : conv A S n = g0) : Inv S f (n + 1) A B l (gap + 1) b := by
  refine ⟨h.fl, by have := h.ln; omega, h.a0, h.ad, fun j h1 h2 => ?_, by omega, by have := h.gn; omega, h.bn, fun k hk => h.bd k (by omega), fun j h1 h2 => h.bz j (by omega) (by omega), ?_⟩
  · by_cases e : j = n
    · subst e; exact hz
    · exact h.az j h1 (by omega)
  · rcases h.bb with ⟨h1, h2⟩ | ⟨h1, h2⟩
    · exact .inl ⟨h1, by omega⟩
    · exact .inr ⟨by omega, by rw [show n + 1 - (gap + 1) = n - gap from by omega]; exact h2⟩
theorem Inv.long {S : Nat → G} {f n : Nat} {A B : Nat → G} {l gap : Nat} {b c : G} (h : Inv S f n A B l gap b) (hd : conv A S n ≠ g0) (hc : c * b = conv A S n) (h2 : 2 * l ≤ n + f) :
    Inv S f (n + 1) (upd A B c gap) A (n + 1 + f - l) 1 (conv A S n) := by
  have hfl := h.fl; have hln := h.ln; have hgp := h.gp
  refine ⟨by omega, by omega, ?_, fun k hk => ?_, fun j h1 h2 => ?_, Nat.le_refl _, by omega, hd, fun k hk => h.ad k (by omega), fun j h1 h2 => h.az j (by omega) (by omega), .inr ⟨by omega, by rw [Nat.add_sub_cancel]⟩⟩
  · unfold upd; rw [if_neg (by omega)]; exact h.a0
  · unfold upd
    by_cases hg : gap ≤ k
    · rw [if_pos hg, h.ad k (by omega), h.bd (k - gap) (by omega), mul_zero]; rfl
    · rw [if_neg hg]; exact h.ad k (by omega)
  · rw [conv_upd]
    by_cases e : j = n
    · subst e
      rcases h.bb with ⟨h3, h4⟩ | ⟨h3, h4⟩
      · omega
      · rw [if_pos h3, h4, hc, add_self]
    · by_cases hg : gap ≤ j
      · rw [if_pos hg, h.az j (by omega) (by omega), h.bz (j - gap) (by omega) (by omega), mul_zero]; rfl
      · rw [if_neg hg]; exact h.az j (by omega) (by omega)
theorem Inv.short {S : Nat → G} {f n : Nat} {A B : Nat → G} {l gap : Nat} {b c : G} (h : Inv S f n A B l gap b) (hc : c * b = conv A S n) (h2 : ¬ 2 * l ≤ n + f) :
    Inv S f (n + 1) (upd A B c gap) B l (gap + 1) b := by
  have hfl := h.fl; have hln := h.ln; have hgp := h.gp; have hgn := h.gn
  refine ⟨hfl, by omega, ?_, fun k hk => ?_, fun j h1 h3 => ?_, by omega, by omega, h.bn, fun k hk => h.bd k (by omega), fun j h1 h2 => h.bz j (by omega) (by omega), ?_⟩
  · unfold upd; rw [if_neg (by omega)]; exact h.a0
  · unfold upd
    by_cases hg : gap ≤ k
    · rw [if_pos hg, h.ad k hk, h.bd (k - gap) (by omega), mul_zero]; rfl
    · rw [if_neg hg]; exact h.ad k hk
  · rw [conv_upd]
    by_cases e : j = n
    · subst e
      rcases h.bb with ⟨h4, h5⟩ | ⟨h4, h5⟩
      · omega
      · rw [if_pos h4, h5, hc, add_self]
    · by_cases hg : gap ≤ j
      · rw [if_pos hg, h.az j h1 (by omega), h.bz (j - gap) (by omega) (by omega), mul_zero]; rfl
      · rw [if_neg hg]; exact h.az j h1 (by omega)
  · rcases h.bb with ⟨h3, h4⟩ | ⟨h3, h4⟩
    · omega
    · exact .inr ⟨by omega, by rw [show n + 1 - (gap + 1) = n - gap from by omega]; exact h4⟩
end Gf

namespace Gf

/-- the sum of the first m powers -/
def geo (m : Nat) (t : G) : G := sm m (fun j => pw t j)
theorem geo_mul (m : Nat) (t : G) : (g1 + t) * geo m t = g1 + pw t m := by
  induction m with
  | zero => show (g1 + t) * g0 = g1 + g1; rw [mul_zero, add_self]
  | succ m ih =>
    show (g1 + t) * (geo m t + pw t m) = g1 + pw t m * t
    rw [mul_add, ih, add_mul, one_mul]
    have : g1 + pw t m + (pw t m + t * pw t m) = g1 + pw t m * t + (pw t m + pw t m) := by ac_rfl
    rw [this, add_self, add_zero]
theorem geo_one (m : Nat) : geo m g1 = if m % 2 = 1 then g1 else g0 := by
  unfold geo
  rw [sm_congr (g := fun _ => g1) (fun i _ => pw_one i), sm_const]
theorem tri (r : Nat) (F : Nat → Nat → G) : sm r (fun j => sm (j + 1) (fun k => F k (j - k))) = sm r (fun k => sm (r - k) (fun t => F k t)) := by
  induction r with
  | zero => rfl
  | succ r ih =>
    show sm r _ + sm (r + 1) (fun k => F k (r - k)) = sm r (fun k => sm (r + 1 - k) (fun t => F k t)) + sm (r + 1 - r) (fun t => F r t)
    rw [ih]
    have h1 : sm r (fun k => sm (r + 1 - k) (fun t => F k t)) = sm r (fun k => sm (r - k) (fun t => F k t)) + sm r (fun k => F k (r - k)) := by
      rw [← sm_add]
      apply sm_congr
      intro k hk
      rw [show r + 1 - k = r - k + 1 from by omega]; rfl
    rw [h1, show r + 1 - r = 0 + 1 from by omega]
    show _ + (sm r (fun k => F k (r - k)) + F r (r - r)) = _ + _ + (g0 + F r 0)
    rw [zero_add, Nat.sub_self, add_assoc]
/-- the terms of a polynomial over (1 less x times the unknown) -/
def qt (A : Nat → G) (x : G) (j : Nat) : G := sm (j + 1) (fun k => A k * pw x (j - k))
theorem qt_sum (A : Nat → G) (x y : G) (r : Nat) : sm r (fun j => qt A x j * pw y j) = sm r (fun k => A k * pw y k * geo (r - k) (x * y)) := by
  have h1 : sm r (fun j => qt A x j * pw y j) = sm r (fun j => sm (j + 1) (fun k => (fun k t => A k * pw y k * pw (x * y) t) k (j - k))) := by
    apply sm_congr
    intro j _
    unfold qt
    rw [← sm_mul']
    apply sm_congr
    intro k hk
    show A k * pw x (j - k) * pw y j = A k * pw y k * pw (x * y) (j - k)
    have : pw y j = pw y k * pw y (j - k) := by rw [← pw_add, show k + (j - k) = j from by omega]
    rw [this, pw_mul]; ac_rfl
  rw [h1]
  refine (tri r (fun k t => A k * pw y k * pw (x * y) t)).trans ?_
  apply sm_congr
  intro k _
  unfold geo
  rw [← sm_mul]
/-- at another root: nought -/
theorem qt_other (A : Nat → G) (x y x' : G) (r : Nat) (hxy : x * x' = g1) (h1 : evf A (r + 1) y = g0) (h2 : evf A (r + 1) x' = g0) (hne : x * y ≠ g1) :
    sm r (fun j => qt A x j * pw y j) = g0 := by
  have hk : (g1 + x * y) * sm r (fun j => qt A x j * pw y j) = g0 := by
    rw [qt_sum, ← sm_mul]
    have e : sm r (fun k => (g1 + x * y) * (A k * pw y k * geo (r - k) (x * y))) = sm (r + 1) (fun k => A k * pw y k + pw (x * y) r * (A k * pw x' k)) := by
      show _ = sm r _ + (A r * pw y r + pw (x * y) r * (A r * pw x' r))
      have hr : A r * pw y r + pw (x * y) r * (A r * pw x' r) = g0 := by
        have : pw (x * y) r * (A r * pw x' r) = A r * (pw y r * (pw x r * pw x' r)) := by rw [pw_mul]; ac_rfl
        rw [this, ← pw_mul x, hxy, pw_one, mul_one, add_self]
      rw [hr, add_zero]
      apply sm_congr
      intro k hk
      have : (g1 + x * y) * (A k * pw y k * geo (r - k) (x * y)) = A k * pw y k * ((g1 + x * y) * geo (r - k) (x * y)) := by ac_rfl
      rw [this, geo_mul, mul_add, mul_one]
      congr 1
      have h3 : pw (x * y) r = pw (x * y) (r - k) * pw (x * y) k := by rw [← pw_add, show r - k + k = r from by omega]
      have h4 : pw (x * y) (r - k) * pw (x * y) k * (A k * pw x' k) = A k * pw y k * pw (x * y) (r - k) * (pw x k * pw x' k) := by rw [pw_mul x y k]; ac_rfl
      rw [h3, h4, ← pw_mul, hxy, pw_one, mul_one]
    rw [e, sm_add, sm_mul]
    have e1 : sm (r + 1) (fun k => A k * pw y k) = g0 := h1
    have e2 : sm (r + 1) (fun k => A k * pw x' k) = g0 := h2
    rw [e1, e2, mul_zero]; rfl
  rcases mul_eq hk with h | h
  · exact absurd (add_eq.1 h).symm hne
  · exact h
/-- the odd terms -/
def odd (A : Nat → G) (m : Nat) (y : G) : G := sm m (fun k => if k % 2 = 1 then A k * pw y k else g0)
theorem qt_same (A : Nat → G) (x y : G) (r : Nat) (hr : r % 2 = 0) (hxy : x * y = g1) : sm r (fun j => qt A x j * pw y j) = odd A r y := by
  rw [qt_sum]
  unfold odd
  apply sm_congr
  intro k hk
  rw [hxy, geo_one]
  by_cases h : k % 2 = 1
  · rw [if_pos h, if_pos (by omega), mul_one]
  · rw [if_neg h, if_neg (by omega), mul_zero]

/-- the places, what stands for them, what is wrong there, what is lost -/
structure Set (n r f v : Nat) (X Y e : Nat → G) (lost : Nat → Bool) : Prop where
  xy : ∀ i, i < n → X i * Y i = g1
  inj : ∀ i j, i < n → j < n → X i = X j → i = j
  cl : cnt n lost = f
  cv : cnt n (fun i => decide (e i ≠ g0) && !lost i) = v
  reach : 2 * v + f ≤ r
variable {n r f v : Nat} {X Y e : Nat → G} {lost : Nat → Bool}
theorem Set.x0 (s : Set n r f v X Y e lost) (i : Nat) (hi : i < n) : X i ≠ g0 := fun h => one_ne (by rw [← s.xy i hi, h, zero_mul])
theorem Set.y0 (s : Set n r f v X Y e lost) (i : Nat) (hi : i < n) : Y i ≠ g0 := fun h => one_ne (by rw [← s.xy i hi, h, mul_zero])
theorem Set.yinj (s : Set n r f v X Y e lost) (i j : Nat) (hi : i < n) (hj : j < n) (h : Y i = Y j) : i = j := by
  apply s.inj i j hi hj
  apply mul_cancel (s.y0 i hi)
  rw [s.xy i hi, h, s.xy j hj]
theorem Set.ne (s : Set n r f v X Y e lost) (i j : Nat) (hi : i < n) (hj : j < n) (hne : i ≠ j) : X i * Y j ≠ g1 := by
  intro h
  apply hne
  apply s.inj i j hi hj
  apply mul_cancel (s.y0 j hj)
  rw [h, s.xy j hj]
/-- the search's state, and what it has to do with the places -/
structure Good (n f v : Nat) (X Y e : Nat → G) (lost : Nat → Bool) (N : Nat) (m : Nat) (A B : Nat → G) (l gap : Nat) (b : G) : Prop where
  inv : Inv (syd n e X) f m A B l gap b
  la : ∀ i, i < n → lost i = true → evf A N (Y i) = g0
  lb : ∀ i, i < n → lost i = true → evf B N (Y i) = g0
  lv : l ≤ f + v
theorem Good.step (s : Set n r f v X Y e lost) {N m : Nat} {A B : Nat → G} {l gap : Nat} {b c : G} (h : Good n f v X Y e lost N m A B l gap b) (hN : m + 1 < N) (hc : c * b = conv A (syd n e X) m) :
    (conv A (syd n e X) m = g0 → Good n f v X Y e lost N (m + 1) A B l (gap + 1) b) ∧
    (conv A (syd n e X) m ≠ g0 → 2 * l ≤ m + f → Good n f v X Y e lost N (m + 1) (upd A B c gap) A (m + 1 + f - l) 1 (conv A (syd n e X) m)) ∧
    (conv A (syd n e X) m ≠ g0 → ¬ 2 * l ≤ m + f → Good n f v X Y e lost N (m + 1) (upd A B c gap) B l (gap + 1) b) := by
  have hu : ∀ i, i < n → lost i = true → evf (upd A B c gap) N (Y i) = g0 := by
    intro i hi hl
    apply evf_upd _ _ _ _ _ _ (h.la i hi hl)
    have := h.inv.gp; have := h.inv.gn; have := h.inv.fl; have := h.inv.ln
    have e1 : evf B N (Y i) = evf B (N - gap) (Y i) := evf_more _ (by omega) (fun k hk => h.inv.bd k (by omega))
    rw [← e1]; exact h.lb i hi hl
  refine ⟨fun hz => ⟨h.inv.same hz, h.la, h.lb, h.lv⟩, fun hd h2 => ⟨h.inv.long hd hc h2, hu, h.la, ?_⟩, fun hd h2 => ⟨h.inv.short hc h2, hu, h.lb, h.lv⟩⟩
  have hln := h.inv.ln
  by_cases hv : l + v ≤ m
  · exfalso
    have hk := conv_key n e X Y s.x0 s.xy s.inj lost v (Nat.le_of_eq s.cv) A (l + 1) (fun k hk => h.inv.ad k (by omega)) (fun i hi hl => by
      have e1 : evf A N (Y i) = evf A (l + 1) (Y i) := evf_more _ (by omega) (fun k hk => h.inv.ad k (by omega))
      rw [← e1]; exact h.la i hi hl) l (by omega) (fun j h1 h3 => h.inv.az j h1 (by omega))
    exact hd (hk.2 m (by omega))
  · omega
/-- WHAT THE SEARCH HAS FOUND AT ITS END -/
theorem Good.found (s : Set n r f v X Y e lost) (hr : r % 2 = 0) {N : Nat} {A B : Nat → G} {l gap : Nat} {b : G} (h : Good n f v X Y e lost N r A B l gap b) (hN : r + 1 ≤ N) :
    l ≤ r ∧ (∀ i, i < n → (evf A (l + 1) (Y i) = g0 ↔ (lost i = true ∨ e i ≠ g0))) ∧
    (∀ i, i < n → evf A (l + 1) (Y i) = g0 → odd A (l + 1) (Y i) ≠ g0 ∧ sm r (fun j => conv A (syd n e X) j * pw (Y i) j) = e i * odd A (l + 1) (Y i)) := by
  have hlv := h.lv; have hre := s.reach
  have hlr : l ≤ r := by omega
  have hm : ∀ m, l + 1 ≤ m → ∀ y, evf A m y = evf A (l + 1) y := fun m hm y => evf_more y hm (fun k hk => h.inv.ad k (by omega))
  have hk := conv_key n e X Y s.x0 s.xy s.inj lost v (Nat.le_of_eq s.cv) A (l + 1) (fun k hk => h.inv.ad k (by omega)) (fun i hi hl => by
    rw [← hm N (by omega)]; exact h.la i hi hl) l (by omega) (fun j h1 h3 => h.inv.az j h1 (by omega))
  have hback : ∀ i, i < n → (lost i = true ∨ e i ≠ g0) → evf A (l + 1) (Y i) = g0 := by
    intro i hi ho
    by_cases hl : lost i = true
    · rw [← hm N (by omega)]; exact h.la i hi hl
    · rcases mul_eq (hk.1 i hi) with h1 | h1
      · rcases ho with h2 | h2
        · exact absurd h2 hl
        · exact absurd h1 h2
      · exact h1
  have hcnt : cnt n (fun i => lost i || decide (e i ≠ g0)) = f + v := by
    rw [← s.cl, ← s.cv, ← cnt_or (fun i _ h => by simp [h])]
    apply cnt_congr
    intro i _
    cases lost i <;> simp
  have hroot : ∀ i, i < n → evf A (l + 1) (Y i) = g0 → (lost i = true ∨ e i ≠ g0) := by
    intro i hi h0
    cases hl : lost i with
    | true => exact .inl rfl
    | false =>
      refine .inr fun he => ?_
      have h1 : f + v < cnt n (fun i => decide (evf A (l + 1) (Y i) = g0)) := by
        rw [← hcnt]
        refine cnt_lt (fun j hj hp => ?_) i hi (by simpa using h0) (by simp [hl, he])
        simp only [Bool.or_eq_true, decide_eq_true_eq] at hp ⊢
        exact hback j hj hp
      have h2 := roots_fun n Y s.yinj (l + 1) A (fun i => decide (evf A (l + 1) (Y i) = g0)) (by omega) (fun j hj hp => by simpa using hp) 0 (by omega)
      rw [h.inv.a0] at h2
      exact one_ne h2
  refine ⟨hlr, fun i hi => ⟨hroot i hi, hback i hi⟩, fun i hi h0 => ?_⟩
  have hodd : ∀ m, l + 1 ≤ m + 1 → m % 2 = 0 → ∀ y, odd A (l + 1) y = odd A m y := by
    intro m hm h2 y
    have e1 : odd A (m + 1) y = odd A (l + 1) y := sm_more _ hm (fun k hk _ => by
      by_cases h3 : k % 2 = 1
      · rw [if_pos h3, h.inv.ad k (by omega), zero_mul]
      · rw [if_neg h3])
    rw [← e1]
    show odd A m y + (if m % 2 = 1 then A m * pw y m else g0) = odd A m y
    rw [if_neg (by omega), add_zero]
  have hr1 : ∀ y, evf A (r + 1) y = evf A (l + 1) y := hm (r + 1) (by omega)
  constructor
  · intro hz
    -- the quotient by this root has as many roots as all, and is not nought
    have hq : ∀ j, l ≤ j → qt A (X i) j = g0 := by
      intro j hj
      have : qt A (X i) j = pw (X i) j * evf A (j + 1) (Y i) := by
        unfold qt evf
        rw [← sm_mul]
        apply sm_congr
        intro k hk
        rw [pw_sub (s.xy i hi) (by omega)]; ac_rfl
      rw [this, hm (j + 1) (by omega), h0, mul_zero]
    have hl1 : 1 ≤ l := by
      rcases Nat.eq_zero_or_pos l with h1 | h1
      · exfalso
        subst h1
        have h2 : g0 + A 0 * g1 = g0 := h0
        rw [zero_add, mul_one, h.inv.a0] at h2
        exact one_ne h2
      · exact h1
    have h3 : ∀ j, j < n → (lost j || decide (e j ≠ g0)) = true → evf (qt A (X i)) l (Y j) = g0 := by
      intro j hj hp
      simp only [Bool.or_eq_true, decide_eq_true_eq] at hp
      have hjr := hback j hj hp
      have e1 : evf (qt A (X i)) l (Y j) = evf (qt A (X i)) r (Y j) := (evf_more _ hlr hq).symm
      rw [e1]
      show sm r (fun k => qt A (X i) k * pw (Y j) k) = g0
      by_cases e2 : i = j
      · subst e2
        rw [qt_same A (X i) (Y i) r hr (s.xy i hi), ← hodd r (by omega) hr, hz]
      · exact qt_other A (X i) (Y j) (Y i) r (s.xy i hi) (by rw [hr1, hjr]) (by rw [hr1, h0]) (s.ne i j hi hj e2)
    have h4 := roots_fun n Y s.yinj l (qt A (X i)) (fun j => lost j || decide (e j ≠ g0)) (by rw [hcnt]; exact hlv) h3 0 (by omega)
    have h5 : qt A (X i) 0 = g1 := by
      show g0 + A 0 * pw (X i) 0 = g1
      rw [h.inv.a0, zero_add]; exact one_mul _
    exact one_ne (by rw [← h5, h4])
  · have e1 : sm r (fun j => conv A (syd n e X) j * pw (Y i) j) = sm n (fun k => e k * sm r (fun j => qt A (X k) j * pw (Y i) j)) := by
      have : ∀ j, conv A (syd n e X) j = sm n (fun k => e k * qt A (X k) j) := by
        intro j
        have h1 : conv A (syd n e X) j = sm (j + 1) (fun t => sm n (fun k => A t * (e k * pw (X k) (j - t)))) := sm_congr fun k _ => (sm_mul n (A k) _).symm
        rw [h1, sm_comm]
        apply sm_congr
        intro k _
        unfold qt
        rw [← sm_mul]
        apply sm_congr
        intro t _
        ac_rfl
      rw [sm_congr (g := fun j => sm n (fun k => e k * (qt A (X k) j * pw (Y i) j))) (fun j _ => by
        rw [this, ← sm_mul']; apply sm_congr; intro k _; ac_rfl), sm_comm]
      apply sm_congr
      intro k _
      rw [← sm_mul]
    rw [e1, sm_one _ i hi, qt_same A (X i) (Y i) r hr (s.xy i hi), ← hodd r (by omega) hr]
    intro k hkn hne
    by_cases hek : e k = g0
    · rw [hek, zero_mul]
    · rw [qt_other A (X k) (Y i) (Y k) r (s.xy k hkn) (by rw [hr1, h0]) (by rw [hr1]; exact hback k hkn (.inr hek)) (s.ne k i hkn hi hne), mul_zero]
/-- the inverse: to the power of 254 -/
def inv (a : G) : G := pw a 254
theorem inv_mul {a : G} (h : a ≠ g0) : a * inv a = g1 := by
  rcases cases_px a with rfl | ⟨i, hi, rfl⟩
  · exact absurd rfl h
  · unfold inv
    rw [pw_px, px_mul_px, show i + i * 254 = 255 * i from by omega, ← px_mod]
    rw [show 255 * i % 255 = 0 from Nat.mul_mod_right 255 i]; rfl


/-- what the search holds: the polynomial, the one before the last change of length, the length, how long ago that was, what was left then -/
structure St where
  A : Nat → G
  B : Nat → G
  l : Nat
  gap : Nat
  b : G
def kstep (S : Nat → G) (f n : Nat) (s : St) : St :=
  if conv s.A S n = g0 then ⟨s.A, s.B, s.l, s.gap + 1, s.b⟩
  else if 2 * s.l ≤ n + f then ⟨upd s.A s.B (conv s.A S n * inv s.b) s.gap, s.A, n + 1 + f - s.l, 1, conv s.A S n⟩
  else ⟨upd s.A s.B (conv s.A S n * inv s.b) s.gap, s.B, s.l, s.gap + 1, s.b⟩
def krun (S : Nat → G) (f : Nat) (A0 : Nat → G) : Nat → St
  | 0 => ⟨A0, A0, f, 1, g1⟩
  | m + 1 => kstep S f (f + m) (krun S f A0 m)
theorem over_mul {a b : G} (h : b ≠ g0) : a * inv b * b = a := by rw [mul_assoc, mul_comm (inv b), inv_mul h, mul_one]
theorem krun_inv (S : Nat → G) (f : Nat) (A0 : Nat → G) (h0 : A0 0 = g1) (hd : ∀ k, f < k → A0 k = g0) (m : Nat) :
    Inv S f (f + m) (krun S f A0 m).A (krun S f A0 m).B (krun S f A0 m).l (krun S f A0 m).gap (krun S f A0 m).b := by
  induction m with
  | zero => exact Inv.start S f A0 h0 hd
  | succ m ih =>
    show Inv S f (f + m + 1) (kstep S f (f + m) (krun S f A0 m)).A (kstep S f (f + m) (krun S f A0 m)).B (kstep S f (f + m) (krun S f A0 m)).l (kstep S f (f + m) (krun S f A0 m)).gap (kstep S f (f + m) (krun S f A0 m)).b
    generalize krun S f A0 m = s at ih ⊢
    unfold kstep
    by_cases hz : conv s.A S (f + m) = g0
    · rw [if_pos hz]; exact ih.same hz
    · rw [if_neg hz]
      by_cases h2 : 2 * s.l ≤ f + m + f
      · rw [if_pos h2]; exact ih.long hz (over_mul ih.bn) h2
      · rw [if_neg h2]; exact ih.short (over_mul ih.bn) h2
theorem krun_good {n r f v : Nat} {X Y e : Nat → G} {lost : Nat → Bool} (s : Set n r f v X Y e lost) (A0 : Nat → G) (h0 : A0 0 = g1) (hd : ∀ k, f < k → A0 k = g0) {N : Nat} (hN : r + 1 < N)
    (hl : ∀ i, i < n → lost i = true → evf A0 N (Y i) = g0) (m : Nat) (hm : f + m ≤ r) :
    Good n f v X Y e lost N (f + m) (krun (syd n e X) f A0 m).A (krun (syd n e X) f A0 m).B (krun (syd n e X) f A0 m).l (krun (syd n e X) f A0 m).gap (krun (syd n e X) f A0 m).b := by
  induction m with
  | zero => exact ⟨Inv.start _ f A0 h0 hd, hl, hl, by show f ≤ f + v; omega⟩
  | succ m ih =>
    have ih := ih (by omega)
    show Good n f v X Y e lost N (f + m + 1) (kstep (syd n e X) f (f + m) (krun (syd n e X) f A0 m)).A (kstep (syd n e X) f (f + m) (krun (syd n e X) f A0 m)).B (kstep (syd n e X) f (f + m) (krun (syd n e X) f A0 m)).l (kstep (syd n e X) f (f + m) (krun (syd n e X) f A0 m)).gap (kstep (syd n e X) f (f + m) (krun (syd n e X) f A0 m)).b
    generalize krun (syd n e X) f A0 m = t at ih ⊢
    obtain ⟨g1, g2, g3⟩ := Good.step s ih (by omega) (over_mul ih.inv.bn)
    unfold kstep
    by_cases hz : conv t.A (syd n e X) (f + m) = g0
    · rw [if_pos hz]; exact g1 hz
    · rw [if_neg hz]
      by_cases h2 : 2 * t.l ≤ f + m + f
      · rw [if_pos h2]; exact g2 hz h2
      · rw [if_neg h2]; exact g3 hz h2
end Gf
