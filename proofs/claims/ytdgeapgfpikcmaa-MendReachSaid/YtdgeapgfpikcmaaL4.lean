import Derived.Test.YtdgeapgfpikcmaaL0
import Derived.Test.YtdgeapgfpikcmaaQx5
import Derived.Test.YtdgeapgfpikcmaaQx6
import Derived.Test.YtdgeapgfpikcmaaQx7
import Derived.Test.YtdgeapgfpikcmaaQx8
/-
  What Mend gives; awake.
-/
namespace Go.Proofs.Ytdgeapgfpikcmaa.Hand
open Go.RowKit Gf Go.Proofs.Ytdgeapgfpikcmaa.Q Go.Proofs.YtdgeapgfpikcmaaV.PrintWords Go.Proofs.YtdgeapgfpikcmaaV.PrintLast Go.Proofs.YtdgeapgfpikcmaaV.PrintMore

/-- sizes that may be, r any whole number -/
def FitI (n : Nat) (r : Int) : Prop := 2 ≤ r ∧ r ≤ 64 ∧ r % 2 = 0 ∧ r < n ∧ (n : Int) ≤ 255
instance (n : Nat) (r : Int) : Decidable (FitI n r) := by unfold FitI; infer_instance
theorem mcheck_ok (s : ByteArray) (r : Nat) (h : Fit s.size r) (l : List Int) (hl : l.length ≤ 9223372036854775807) (hg : GoodL s.size l) : Ev (fun k => mend_check.f k s (r : Int) l) (bls s.size (lostB l), 0) := by
  unfold mend_check.f
  rw [check_ok h.r2 h.r64 h.even h.rn h.n255]
  exact ev_some (ev_pos rfl (Ev.bind ((marked_ev s.size h.n255 l hl).1 hg) (ev_pos rfl (Ev.now _))))
theorem Mend_found (s : ByteArray) (r : Nat) (h : Fit s.size r) (l : List Int) (hg : GoodL s.size l) (c : ByteArray) (hc : c.size = s.size) (hw : Code r c) (hn : Near r s c l) :
    Ev (fun k => mend_Mend.f k s (r : Int) l) (c, fil s.size (unB s c (lostB l)), fil s.size (lostB l), 0) := by
  have hlr : l.length ≤ r := by unfold Near at hn; omega
  have h64 := h.r64
  refine Ev.bind (mcheck_ok s r h l (by omega) hg) (ev_pos rfl (ev_neg (by omega) (Ev.bind (mend_found s r h l hg c hc hw hn) (ev_pos rfl ?_))))
  exact Ev.bind (unlike_ev s c hc.symm h.n255 (lostB l)) (Ev.bind (rising_ev s.size h.n255 (lostB l)) (Ev.now _))
theorem awake_code : Code 2 (⟨#[1, 3, 2]⟩ : ByteArray) := by decide +kernel
theorem awake_ev : Ev (fun k => foghornlaw20_awake.f k) true := by
  have h1 := Mend_found (⟨#[1, 7, 2]⟩ : ByteArray) 2 ⟨by decide, by decide, by decide, by decide, by decide⟩ [] ⟨(fun p hp => by cases hp), (by simp)⟩ (⟨#[1, 3, 2]⟩ : ByteArray) rfl awake_code (by unfold Near; decide +kernel)
  have h2 := Mend_found (⟨#[7, 7, 2]⟩ : ByteArray) 2 ⟨by decide, by decide, by decide, by decide, by decide⟩ [0, 1] (by decide +kernel) (⟨#[1, 3, 2]⟩ : ByteArray) rfl awake_code (by unfold Near; decide +kernel)
  refine Ev.bind h1 (Ev.bind h2 (ev_pos rfl (ev_pos rfl (ev_pos (by decide +kernel) (ev_pos rfl (ev_pos (by decide +kernel) (ev_pos (by decide +kernel) (ev_to (Ev.now _) (by decide +kernel)))))))))
end Go.Proofs.Ytdgeapgfpikcmaa.Hand

/-
  The document's codewords (layer 19): Encode gives a codeword that begins with the data.
-/
namespace Go.Proofs.Ytdgeapgfpikcmaa.Hand
open Go.RowKit Gf Go.Proofs.Ytdgeapgfpikcmaa.Q Go.Proofs.YtdgeapgfpikcmaaV.PrintWords Go.Proofs.YtdgeapgfpikcmaaV.PrintLast Go.Proofs.YtdgeapgfpikcmaaV.PrintMore

theorem bits_xor64 {a b : Nat} (ha : a < 2 ^ 62) (hb : b < 2 ^ 62) : Go.bits .xor .i64 (a : Int) (b : Int) = ((a ^^^ b : Nat) : Int) :=
  bits_xor_k .i64 62 (by decide) (fun n h0 h1 => by rw [IntKind.wrap_i64]; omega) a b ha hb
/-- the bits of b from i on -/
def hib (b : G) (i : Nat) : G := ⟨b.n / 2 ^ i, Nat.lt_of_le_of_lt (Nat.div_le_self _ _) b.lt⟩
theorem hib_step (b : G) (i : Nat) : hib b i = (if b.n / 2 ^ i % 2 = 1 then g1 else g0) + hib b (i + 1) * px 1 := by
  have h := half (hib b i).n (hib b i).lt
  have e : (⟨(hib b i).n, (hib b i).lt⟩ : G) = hib b i := rfl
  rw [e] at h
  rw [h]
  congr 1
  · apply G.ext
    show b.n / 2 ^ i % 2 = _
    by_cases h2 : b.n / 2 ^ i % 2 = 1
    · rw [if_pos h2, h2]; rfl
    · rw [if_neg h2]; show _ = 0; omega
  · congr 1
    apply G.ext
    show b.n / 2 ^ i / 2 = b.n / 2 ^ (i + 1)
    rw [Nat.div_div_eq_div_mul, Nat.pow_succ]
theorem t19_double : ∀ a, a < 256 → 2 * a > 255 → (2 * a) ^^^ 285 = xt a := by decide +kernel
theorem xt_low {a : Nat} (h : ¬ 2 * a > 255) : xt a = 2 * a := by unfold xt; rw [if_pos (by omega)]
theorem t19_loop (b : G) (d : Nat) : ∀ (i : Nat) (x o : G), 8 = i + d → Ev (fun k => foghornref19_Times.l0 k (gi b) (gi x) (gi o) (i : Int)) (gi (o + x * hib b i)) := by
  induction d with
  | zero =>
    intro i x o hi
    have hz : hib b i = g0 := by
      apply G.ext
      show b.n / 2 ^ i = 0
      rw [show i = 8 from by omega]
      exact Nat.div_eq_of_lt b.lt
    refine Ev.step (fun k => rfl) (ev_neg (by omega) (ev_to (Ev.now _) ?_))
    rw [hz, mul_zero, add_zero]
    have := gi_lo o
    have := gi_hi o
    omega
  | succ d ih =>
    intro i x o hi
    have hx : (xt x.n) < 256 := xt_lt _ x.lt
    have ex : (⟨xt x.n, hx⟩ : G) = x * px 1 := G.ext (by rw [mul_px]; rfl)
    have e2 : wrap64 (2 * gi x) = ((2 * x.n : Nat) : Int) := by have := x.lt; unfold gi wrap64; omega
    have hbit : Go.bits .and .u8 (shr .u8 (gi b) (i : Int)) 1 = ((b.n / 2 ^ i % 2 : Nat) : Int) := by
      have q : shr .u8 (gi b) (i : Int) = ((b.n / 2 ^ i : Nat) : Int) := by
        unfold shr gi
        rw [show min ((i : Int)).toNat (IntKind.bits .u8) = i from by show min _ 8 = i; omega]
        rw [Int.natCast_ediv, Int.natCast_pow]; rfl
      rw [q, bits_and1 (Nat.lt_of_le_of_lt (Nat.div_le_self _ _) b.lt)]
    have ho : Go.bits .xor .i64 (gi o) (gi x) = gi (o + x) := bits_xor64 (Nat.lt_trans o.lt (by decide)) (Nat.lt_trans x.lt (by decide))
    have hcont : ∀ o', Ev (fun k => if wrap64 (2 * gi x) > 255 then foghornref19_Times.l0 k (gi b) (Go.bits .xor .i64 (wrap64 (2 * gi x)) 285) (gi o') (wrap64 ((i : Int) + 1)) else foghornref19_Times.l0 k (gi b) (wrap64 (2 * gi x)) (gi o') (wrap64 ((i : Int) + 1))) (gi (o' + x * px 1 * hib b (i + 1))) := by
      intro o'
      rw [e2, show (i : Int) + 1 = ((i + 1 : Nat) : Int) from by omega, wrap_nat (by omega), ← ex]
      by_cases h : 2 * x.n > 255
      · refine ev_pos (by omega) ?_
        have : Go.bits .xor .i64 ((2 * x.n : Nat) : Int) 285 = gi ⟨xt x.n, hx⟩ := by
          have q := bits_xor64 (a := 2 * x.n) (b := 285) (by have := x.lt; omega) (by decide)
          rw [t19_double x.n x.lt h] at q
          exact q
        rw [this]
        exact ih (i + 1) _ o' (by omega)
      · refine ev_neg (by omega) ?_
        have : ((2 * x.n : Nat) : Int) = gi ⟨xt x.n, hx⟩ := by show _ = ((xt x.n : Nat) : Int); rw [xt_low h]
        rw [this]
        exact ih (i + 1) _ o' (by omega)
    refine Ev.step (fun k => rfl) (ev_pos (by omega) (ev_pos (by omega) ?_))
    rw [hbit, hib_step b i]
    by_cases hb : b.n / 2 ^ i % 2 = 1
    · refine ev_pos (by omega) ?_
      rw [ho, if_pos hb]
      refine ev_to (hcont (o + x)) ?_
      congr 1
      rw [mul_add, mul_one, ← add_assoc]
      congr 1
      ac_rfl
    · refine ev_neg (by omega) ?_
      rw [if_neg hb]
      refine ev_to (hcont o) ?_
      congr 1
      rw [zero_add]
      congr 1
      ac_rfl
theorem t19_ev (a b : G) : Ev (fun k => foghornref19_Times.f k (gi a) (gi b)) (gi (a * b)) := by
  unfold foghornref19_Times.f
  have e : wrap64 (gi a) = gi a := by have := a.lt; unfold gi wrap64; omega
  rw [e]
  have h := t19_loop b 8 0 a g0 rfl
  have hb : hib b 0 = b := G.ext (by show b.n / 2 ^ 0 = b.n; simp)
  rw [zero_add, hb] at h
  exact h
theorem p19_loop (n : Nat) (hn : n ≤ 300) (d : Nat) : ∀ i, n = i + d → Ev (fun k => foghornref19_Power.l0 k (n : Int) (gi (px i)) (i : Int)) (gi (px n)) := by
  induction d with
  | zero =>
    intro i hi
    refine Ev.step (fun k => rfl) (ev_neg (by omega) (ev_to (Ev.now _) ?_))
    rw [show n = i from by omega]
  | succ d ih =>
    intro i hi
    refine Ev.step (fun k => rfl) (ev_pos (by omega) (Ev.bind (t19_ev (px i) (px 1)) ?_))
    rw [px_mul_px, show (i : Int) + 1 = ((i + 1 : Nat) : Int) from by omega, wrap_nat (by omega)]
    exact ih (i + 1) (by omega)
theorem p19_ev (n : Nat) (hn : n ≤ 300) : Ev (fun k => foghornref19_Power.f k (n : Int)) (gi (px n)) := p19_loop n hn n 0 (by omega)
theorem c19_ok {n r : Nat} (h : Fit n r) : foghornref19_Check.f (n : Int) (r : Int) = some 0 := by
  obtain ⟨h1, h2, h3, h4, h5⟩ := h
  unfold foghornref19_Check.f
  have e : wrap64 ((r : Int) + 1) = (r : Int) + 1 := by unfold wrap64; omega
  rw [if_neg (by omega), if_neg (by omega), Int.tmod_eq_emod_of_nonneg (by omega), if_pos (by omega), e, if_neg (by omega), if_neg (by omega)]

/-- one factor more, the term without x first -/
def stg (P : Nat → G) (x : G) (k : Nat) : G := (if 0 < k then P (k - 1) else g0) + P k * x
def gen : Nat → Nat → G
  | 0 => fun k => if k = 0 then g1 else g0
  | i + 1 => stg (gen i) (px i)
theorem gen_deg (i : Nat) : ∀ k, i < k → gen i k = g0 := by
  induction i with
  | zero => intro k hk; exact if_neg (by omega)
  | succ i ih =>
    intro k hk
    show stg (gen i) (px i) k = g0
    unfold stg
    rw [if_pos (by omega), ih (k - 1) (by omega), ih k (by omega), zero_mul, add_zero]
theorem gen_lead (i : Nat) : gen i i = g1 := by
  induction i with
  | zero => rfl
  | succ i ih =>
    show stg (gen i) (px i) (i + 1) = g1
    unfold stg
    rw [if_pos (by omega), Nat.add_sub_cancel, ih, gen_deg i (i + 1) (by omega), zero_mul, add_zero]
theorem stg_ev (P : Nat → G) (x y : G) (N : Nat) : evf (stg P x) (N + 1) y = y * evf P N y + evf P (N + 1) y * x := by
  unfold evf
  have e : sm (N + 1) (fun k => stg P x k * pw y k) = sm (N + 1) (fun k => (if 0 < k then P (k - 1) else g0) * pw y k) + sm (N + 1) (fun k => P k * pw y k * x) := by
    rw [← sm_add]
    apply sm_congr
    intro k _
    unfold stg
    rw [add_mul]
    congr 1
    ac_rfl
  rw [e, sm_mul', sm_shift]
  congr 1
  rw [if_neg (by omega), zero_mul, zero_add, ← sm_mul]
  apply sm_congr
  intro k _
  rw [if_pos (by omega), Nat.add_sub_cancel]
  show P k * (pw y k * y) = y * (P k * pw y k)
  ac_rfl
theorem gen_root (i : Nat) : ∀ j, j < i → ∀ N, i < N → evf (gen i) N (px j) = g0 := by
  induction i with
  | zero => intro j hj; omega
  | succ i ih =>
    intro j hj N hN
    obtain ⟨N, rfl⟩ : ∃ M, N = M + 1 := ⟨N - 1, by omega⟩
    show evf (stg (gen i) (px i)) (N + 1) (px j) = g0
    rw [stg_ev, evf_more (m := N + 1) (d := N) _ (by omega) (fun k hk => gen_deg i k (by omega))]
    by_cases h : j = i
    · subst h
      have : evf (gen j) N (px j) * px j = px j * evf (gen j) N (px j) := mul_comm _ _
      rw [this, add_self]
    · rw [ih j (by omega) N (by omega), mul_zero, zero_mul, add_zero]
theorem gen_inner (r : Int) (c : Int) (x : G) (m : Nat) (hm : m ≤ 100) (P : Nat → G) (hP : ∀ k, m ≤ k → P k = g0) (q : List Int × Int)
    (h : Ev (fun k => foghornref19_Generator.l0 k r (gl (m + 1) (stg P x)) (wrap64 (c + 1))) q) (d : Nat) : ∀ t, m = t + d →
    Ev (fun k => foghornref19_Generator.l1 k r (gl m P) c (gi x) (gl (m + 1) (fun k => (if 0 < k ∧ k ≤ t then P (k - 1) else g0) + (if k < t then P k * x else g0))) (t : Int)) q := by
  induction d with
  | zero =>
    intro t ht
    have e : gl (m + 1) (fun k => (if 0 < k ∧ k ≤ t then P (k - 1) else g0) + (if k < t then P k * x else g0)) = gl (m + 1) (stg P x) := gl_congr fun k hk => by
      unfold stg
      congr 1
      · by_cases h0 : 0 < k
        · rw [if_pos ⟨h0, by omega⟩, if_pos h0]
        · rw [if_neg (fun h => h0 h.1), if_neg h0]
      · by_cases h0 : k < t
        · rw [if_pos h0]
        · rw [if_neg h0, hP k (by omega), zero_mul]
    rw [e]
    exact Ev.step (fun k => rfl) (ev_neg (by rw [gl_len]; omega) h)
  | succ d ih =>
    intro t ht
    have e1 : wrap64 ((t : Int) + 1) = ((t + 1 : Nat) : Int) := by unfold wrap64; omega
    refine Ev.step (fun k => rfl) (ev_pos (by rw [gl_len]; omega) (ev_pos (by rw [e1]; omega) (ev_pos (by rw [e1, gl_len]; omega) (ev_pos (by omega) (ev_some (ev_pos (by rw [gl_len]; omega) ?_))))))
    rw [e1, gl_get m P t (by omega), gl_get (m + 1) _ (t + 1) (by omega), bits_xor, show (((t + 1 : Nat) : Int)).toNat = t + 1 from by omega, gl_set]
    refine Ev.bind (t19_ev (P t) x) ?_
    rw [gl_get (m + 1) _ t (by omega), bits_xor, show ((t : Int)).toNat = t from by omega, gl_set]
    refine ev_to (A := fun k => foghornref19_Generator.l1 k r (gl m P) c (gi x) (gl (m + 1) _) ((t + 1 : Nat) : Int)) ?_ rfl
    refine Ev.congr (f := fun k => foghornref19_Generator.l1 k r (gl m P) c (gi x) (gl (m + 1) (fun k => (if 0 < k ∧ k ≤ t + 1 then P (k - 1) else g0) + (if k < t + 1 then P k * x else g0))) ((t + 1 : Nat) : Int)) (fun k => ?_) (ih (t + 1) (by omega))
    congr 1
    apply gl_congr
    intro k hk
    by_cases h1 : k = t
    · subst h1
      rw [if_pos rfl, if_neg (show ¬ k = k + 1 by omega), if_neg (show ¬ k < k by omega), add_zero, if_pos (show k < k + 1 by omega)]
      congr 1
      by_cases h0 : 0 < k
      · rw [if_pos ⟨h0, Nat.le_refl _⟩, if_pos ⟨h0, by omega⟩]
      · rw [if_neg (fun h => h0 h.1), if_neg (fun h => h0 h.1)]
    · rw [if_neg h1]
      by_cases h2 : k = t + 1
      · subst h2
        rw [if_pos rfl, if_neg (show ¬ (0 < t + 1 ∧ t + 1 ≤ t) by omega), if_neg (show ¬ t + 1 < t by omega), if_pos (show 0 < t + 1 ∧ t + 1 ≤ t + 1 by omega), if_neg (show ¬ t + 1 < t + 1 by omega), Nat.add_sub_cancel, zero_add, zero_add, add_zero]
      · rw [if_neg h2]
        congr 1
        · by_cases h0 : 0 < k ∧ k ≤ t
          · rw [if_pos h0, if_pos (by omega)]
          · rw [if_neg h0, if_neg (by omega)]
        · by_cases h0 : k < t
          · rw [if_pos h0, if_pos (by omega)]
          · rw [if_neg h0, if_neg (by omega)]
theorem gen_loop (r : Nat) (hr : r ≤ 64) (d : Nat) : ∀ i, r = i + d → Ev (fun k => foghornref19_Generator.l0 k (r : Int) (gl (i + 1) (gen i)) (i : Int)) (gl (r + 1) (gen r), 0) := by
  induction d with
  | zero =>
    intro i hi
    refine Ev.step (fun k => rfl) (ev_neg (by omega) (ev_to (Ev.now _) ?_))
    rw [show r = i from by omega]
  | succ d ih =>
    intro i hi
    have e : wrap64 (((gl (i + 1) (gen i)).length : Int) + 1) = ((i + 2 : Nat) : Int) := by rw [gl_len]; unfold wrap64; omega
    refine Ev.step (fun k => rfl) (ev_pos (by omega) (Ev.bind (p19_ev i (by omega)) (ev_pos (by rw [e]; omega) (ev_pos (by rw [e]; omega) ?_))))
    rw [e, show (((i + 2 : Nat) : Int)).toNat = i + 2 from by omega, gl_zeros]
    have h := gen_inner (r : Int) (i : Int) (px i) (i + 1) (by omega) (gen i) (fun k hk => gen_deg i k (by omega)) (gl (r + 1) (gen r), 0) (by
      rw [show (i : Int) + 1 = ((i + 1 : Nat) : Int) from by omega, wrap_nat (by omega)]
      exact ih (i + 1) (by omega)) (i + 1) 0 (by omega)
    have e2 : gl (i + 1 + 1) (fun k => (if 0 < k ∧ k ≤ 0 then gen i (k - 1) else g0) + (if k < 0 then gen i k * px i else g0)) = gl (i + 2) (fun _ => g0) := gl_congr fun k _ => by
      rw [if_neg (by omega), if_neg (by omega), add_zero]
    rw [e2] at h
    exact h
theorem gen_ev (r : Nat) (h2 : 2 ≤ r) (h64 : r ≤ 64) (he : r % 2 = 0) : Ev (fun k => foghornref19_Generator.f k (r : Int)) (gl (r + 1) (gen r), 0) := by
  unfold foghornref19_Generator.f
  rw [show (r : Int) + 1 = ((r + 1 : Nat) : Int) from by omega, wrap_nat (by omega), c19_ok ⟨h2, h64, he, by omega, by omega⟩]
  exact ev_some (ev_pos rfl (gen_loop r h64 r 0 (by omega)))
end Go.Proofs.Ytdgeapgfpikcmaa.Hand

/-
  The document's Encode gives a codeword that begins with the data.
-/
namespace Go.Proofs.Ytdgeapgfpikcmaa.Hand
open Go.RowKit Gf Go.Proofs.Ytdgeapgfpikcmaa.Q Go.Proofs.YtdgeapgfpikcmaaV.PrintWords Go.Proofs.YtdgeapgfpikcmaaV.PrintLast Go.Proofs.YtdgeapgfpikcmaaV.PrintMore

theorem sm_rev (n : Nat) : ∀ f : Nat → G, sm n f = sm n (fun i => f (n - 1 - i)) := by
  induction n with
  | zero => intro f; rfl
  | succ n ih =>
    intro f
    rw [sm_shift (f := fun i => f (n + 1 - 1 - i))]
    show sm n f + f n = f (n + 1 - 1 - 0) + _
    rw [ih f, add_comm]
    congr 1
    apply sm_congr
    intro i hi
    rw [show n + 1 - 1 - (i + 1) = n - 1 - i from by omega]
/-- a row that is laid over another one, moved -/
theorem ev_moved (g : Nat → G) (lead y : G) (a c N : Nat) (h : a + c ≤ N) : sm N (fun m => (if a ≤ m ∧ m < a + c then lead * g (m - a) else g0) * pw y m) = lead * pw y a * evf g c y := by
  obtain ⟨e, rfl⟩ : ∃ e, N = a + (c + e) := ⟨N - a - c, by omega⟩
  rw [sm_split, sm_split]
  have h1 : sm a (fun m => (if a ≤ m ∧ m < a + c then lead * g (m - a) else g0) * pw y m) = g0 := sm_zero fun i hi => by rw [if_neg (by omega), zero_mul]
  have h3 : sm e (fun i => (if a ≤ a + (c + i) ∧ a + (c + i) < a + c then lead * g (a + (c + i) - a) else g0) * pw y (a + (c + i))) = g0 := sm_zero fun i hi => by rw [if_neg (by omega), zero_mul]
  rw [h1, h3, zero_add, add_zero]
  unfold evf
  rw [← sm_mul]
  apply sm_congr
  intro i hi
  rw [if_pos (by omega), Nat.add_sub_cancel_left, pw_add]
  ac_rfl
/-- the data, moved: the term without x first -/
def mov (s : ByteArray) (N : Nat) (i : Nat) (k : Nat) : G := if N - 1 - k < i then wg s (N - 1 - k) else g0
theorem enc_fill (s : ByteArray) (r : Nat) (hN : s.size + r ≤ 255) (g : List Int) (q : ByteArray × Int)
    (h : Ev (fun k => foghornref19_Encode.l1 k s (r : Int) g (gl (s.size + r) (mov s (s.size + r) s.size)) (((s.size + r : Nat) : Int) - 1)) q) (d : Nat) : ∀ i, s.size = i + d →
    Ev (fun k => foghornref19_Encode.l0 k s (r : Int) g (gl (s.size + r) (mov s (s.size + r) i)) (i : Int)) q := by
  induction d with
  | zero =>
    intro i hi
    refine Ev.step (fun k => rfl) (ev_neg (by omega) ?_)
    rw [gl_len, show wrap64 (((s.size + r : Nat) : Int) - 1) = ((s.size + r : Nat) : Int) - 1 from by unfold wrap64; omega, show i = s.size from by omega]
    exact h
  | succ d ih =>
    intro i hi
    have e : wrap64 (wrap64 (((gl (s.size + r) (mov s (s.size + r) i)).length : Int) - 1) - (i : Int)) = ((s.size + r - 1 - i : Nat) : Int) := by rw [gl_len]; unfold wrap64; omega
    refine Ev.step (fun k => rfl) (ev_pos (by omega) (ev_pos (by omega) (ev_pos (by rw [e]; omega) (ev_pos (by rw [e, gl_len]; omega) ?_))))
    rw [e, show (((s.size + r - 1 - i : Nat) : Int)).toNat = s.size + r - 1 - i from by omega, ← gi_wg, gl_set, show (i : Int) + 1 = ((i + 1 : Nat) : Int) from by omega, wrap_nat (by omega)]
    have e2 : gl (s.size + r) (fun k => if k = s.size + r - 1 - i then wg s i else mov s (s.size + r) i k) = gl (s.size + r) (mov s (s.size + r) (i + 1)) := gl_congr fun k hk => by
      unfold mov
      by_cases h1 : k = s.size + r - 1 - i
      · rw [if_pos h1, if_pos (by omega), show s.size + r - 1 - k = i from by omega]
      · rw [if_neg h1]
        by_cases h2 : s.size + r - 1 - k < i
        · rw [if_pos h2, if_pos (by omega)]
        · rw [if_neg h2, if_neg (by omega)]
    rw [e2]
    exact ih (i + 1) (by omega)
/-- one row of the generator laid over -/
def laid (r i c : Nat) (lead : G) (P : Nat → G) (m : Nat) : G := P m + (if i - r ≤ m ∧ m < i - r + c then lead * gen r (m - (i - r)) else g0)
theorem enc_inner (s : ByteArray) (r N i : Nat) (hN : N ≤ 255) (hr : r ≤ i) (hi : i < N) (lead : G) (P : Nat → G) (q : ByteArray × Int)
    (h : Ev (fun k => foghornref19_Encode.l1 k s (r : Int) (gl (r + 1) (gen r)) (gl N (laid r i (r + 1) lead P)) ((i : Int) - 1)) q) (d : Nat) : ∀ c, r + 1 = c + d →
    Ev (fun k => foghornref19_Encode.l2 k s (r : Int) (gl (r + 1) (gen r)) (gl N (laid r i c lead P)) (i : Int) (gi lead) (c : Int)) q := by
  induction d with
  | zero =>
    intro c hc
    refine Ev.step (fun k => rfl) (ev_neg (by rw [gl_len]; omega) ?_)
    rw [show wrap64 ((i : Int) - 1) = (i : Int) - 1 from by unfold wrap64; omega, show c = r + 1 from by omega]
    exact h
  | succ d ih =>
    intro c hc
    have e : wrap64 (wrap64 ((i : Int) - (r : Int)) + (c : Int)) = ((i - r + c : Nat) : Int) := by unfold wrap64; omega
    refine Ev.step (fun k => rfl) (ev_pos (by rw [gl_len]; omega) (ev_pos (by rw [e]; omega) (ev_pos (by rw [e, gl_len]; omega) (ev_pos (by omega) ?_))))
    rw [gl_get (r + 1) _ c (by omega)]
    refine Ev.bind (t19_ev lead (gen r c)) ?_
    rw [e, gl_get N _ (i - r + c) (by omega), bits_xor, show (((i - r + c : Nat) : Int)).toNat = i - r + c from by omega, gl_set, show (c : Int) + 1 = ((c + 1 : Nat) : Int) from by omega, wrap_nat (by omega)]
    have e2 : gl N (fun k => if k = i - r + c then laid r i c lead P (i - r + c) + lead * gen r c else laid r i c lead P k) = gl N (laid r i (c + 1) lead P) := gl_congr fun k hk => by
      unfold laid
      by_cases h1 : k = i - r + c
      · rw [if_pos h1, if_neg (by omega), if_pos (by omega), add_zero, h1, Nat.add_sub_cancel_left]
      · rw [if_neg h1]
        by_cases h2 : i - r ≤ k ∧ k < i - r + c
        · rw [if_pos h2, if_pos (by omega)]
        · rw [if_neg h2, if_neg (by omega)]
    rw [e2]
    exact ih (c + 1) (by omega)
theorem laid_ev (r i N : Nat) (hr : r ≤ i) (hi : i < N) (lead : G) (P : Nat → G) (j : Nat) (hj : j < r) : evf (laid r i (r + 1) lead P) N (px j) = evf P N (px j) := by
  have e : evf (laid r i (r + 1) lead P) N (px j) = evf P N (px j) + sm N (fun m => (if i - r ≤ m ∧ m < i - r + (r + 1) then lead * gen r (m - (i - r)) else g0) * pw (px j) m) := by
    unfold evf
    rw [← sm_add]
    apply sm_congr
    intro m _
    unfold laid
    rw [add_mul]
  rw [e, ev_moved (gen r) lead (px j) (i - r) (r + 1) N (by omega), gen_root r j hj (r + 1) (by omega), mul_zero, add_zero]
theorem laid_top (r i : Nat) (hr : r ≤ i) (P : Nat → G) : laid r i (r + 1) (P i) P i = g0 := by
  unfold laid
  rw [if_pos (by omega), show i - (i - r) = r from by omega, gen_lead, mul_one, add_self]
theorem laid_far (r i : Nat) (hr : r ≤ i) (lead : G) (P : Nat → G) (m : Nat) (hm : i < m) : laid r i (r + 1) lead P m = P m := by
  unfold laid
  rw [if_neg (by omega), add_zero]
/-- what is written: the data, and what is left, highest term first -/
def encP (s : ByteArray) (r : Nat) (P : Nat → G) (k : Nat) : G := if k < s.size then wg s k else P (r - 1 - (k - s.size))
theorem enc_out (s : ByteArray) (r : Nat) (hN : s.size + r ≤ 255) (P : Nat → G) (d : Nat) : ∀ c, r = c + d →
    Ev (fun k => foghornref19_Encode.l3 k (gl (s.size + r) P) (gl (s.size + c) (encP s r P)) ((r : Int) - 1 - (c : Int))) (strOfNums (gl (s.size + r) (encP s r P)), 0) := by
  induction d with
  | zero =>
    intro c hc
    refine Ev.step (fun k => rfl) (ev_neg (by omega) (ev_to (Ev.now _) ?_))
    rw [show c = r from by omega]
  | succ d ih =>
    intro c hc
    refine Ev.step (fun k => rfl) (ev_pos (by omega) (ev_pos (by omega) (ev_pos (by rw [gl_len]; omega) (ev_pos (by rw [gl_len]; omega) ?_))))
    rw [show (r : Int) - 1 - (c : Int) = ((r - 1 - c : Nat) : Int) from by omega, gl_get (s.size + r) P (r - 1 - c) (by omega), gl_app]
    have e2 : gl (s.size + c + 1) (fun k => if k = s.size + c then P (r - 1 - c) else encP s r P k) = gl (s.size + (c + 1)) (encP s r P) := gl_congr fun k hk => by
      by_cases h1 : k = s.size + c
      · rw [if_pos h1]
        unfold encP
        rw [if_neg (by omega), show k - s.size = c from by omega]
      · rw [if_neg h1]
    rw [e2, show wrap64 (((r - 1 - c : Nat) : Int) - 1) = (r : Int) - 1 - ((c + 1 : Nat) : Int) from by unfold wrap64; omega]
    exact ih (c + 1) (by omega)
theorem enc_code (s : ByteArray) (r : Nat) (P : Nat → G) (hz : ∀ k, r ≤ k → k < s.size + r → P k = g0) (he : ∀ j, j < r → evf P (s.size + r) (px j) = evf (mov s (s.size + r) s.size) (s.size + r) (px j)) :
    Code r (strOfNums (gl (s.size + r) (encP s r P))) := by
  intro j hj
  unfold sy syd
  rw [str_size, sm_rev]
  have e : sm (s.size + r) (fun i => wg (strOfNums (gl (s.size + r) (encP s r P))) (s.size + r - 1 - i) * pw (xat (s.size + r) (s.size + r - 1 - i)) j) = evf P (s.size + r) (px j) + evf (mov s (s.size + r) s.size) (s.size + r) (px j) := by
    unfold evf
    rw [← sm_add]
    apply sm_congr
    intro i hi
    rw [str_wg _ _ _ (by omega)]
    have e1 : pw (xat (s.size + r) (s.size + r - 1 - i)) j = pw (px j) i := by
      show pw (px (s.size + r - 1 - (s.size + r - 1 - i))) j = _
      rw [show s.size + r - 1 - (s.size + r - 1 - i) = i from by omega, pw_px, pw_px, Nat.mul_comm]
    rw [e1, ← add_mul]
    congr 1
    unfold encP mov
    by_cases h : s.size + r - 1 - i < s.size
    · rw [if_pos h, if_pos h, hz i (by omega) hi, zero_add]
    · rw [if_neg h, if_neg h, add_zero, show r - 1 - (s.size + r - 1 - i - s.size) = i from by omega]
  rw [e, he j hj, add_self]
theorem enc_loop (s : ByteArray) (r : Nat) (hN : s.size + r ≤ 255) (d : Nat) : ∀ (t : Nat) (P : Nat → G), t = r + d → t ≤ s.size + r → (∀ k, t ≤ k → k < s.size + r → P k = g0) → (∀ j, j < r → evf P (s.size + r) (px j) = evf (mov s (s.size + r) s.size) (s.size + r) (px j)) →
    ∃ P' : Nat → G, Code r (strOfNums (gl (s.size + r) (encP s r P'))) ∧ Ev (fun k => foghornref19_Encode.l1 k s (r : Int) (gl (r + 1) (gen r)) (gl (s.size + r) P) ((t : Int) - 1)) (strOfNums (gl (s.size + r) (encP s r P')), 0) := by
  induction d with
  | zero =>
    intro t P ht htn hz he
    refine ⟨P, enc_code s r P (fun k h1 h2 => hz k (by omega) h2) he, Ev.step (fun k => rfl) (ev_neg (by omega) (ev_pos (by omega) ?_))⟩
    have h := enc_out s r hN P r 0 (by omega)
    rw [numsOf_gl, show wrap64 ((r : Int) - 1) = (r : Int) - 1 - ((0 : Nat) : Int) from by unfold wrap64; omega]
    have e : gl s.size (wg s) = gl (s.size + 0) (encP s r P) := gl_congr fun k hk => by unfold encP; rw [if_pos hk]
    rw [e]
    exact h
  | succ d ih =>
    intro t P ht htn hz he
    obtain ⟨i, rfl⟩ : ∃ i, t = i + 1 := ⟨t - 1, by omega⟩
    obtain ⟨P', h1, h2⟩ := ih i (laid r i (r + 1) (P i) P) (by omega) (by omega) (fun k hk hk2 => by
        by_cases h : k = i
        · rw [h]; exact laid_top r i (by omega) P
        · rw [laid_far r i (by omega) _ _ _ (by omega)]; exact hz k (by omega) hk2)
      (fun j hj => (laid_ev r i (s.size + r) (by omega) (by omega) (P i) P j hj).trans (he j hj))
    refine ⟨P', h1, ?_⟩
    rw [show ((i + 1 : Nat) : Int) - 1 = (i : Int) from by omega]
    refine Ev.step (fun k => rfl) (ev_pos (by omega) (ev_pos (by omega) (ev_pos (by rw [gl_len]; omega) ?_)))
    rw [gl_get (s.size + r) P i (by omega)]
    have h := enc_inner s r (s.size + r) i hN (by omega) (by omega) (P i) P _ h2 (r + 1) 0 (by omega)
    have e : gl (s.size + r) (laid r i 0 (P i) P) = gl (s.size + r) P := gl_congr fun k _ => by unfold laid; rw [if_neg (by omega), add_zero]
    rw [e] at h
    exact h
/-- Encode gives a codeword, as long as the data and the checks -/
theorem enc_ev (s : ByteArray) (r : Nat) (h : Fit (s.size + r) r) : ∃ c : ByteArray, c.size = s.size + r ∧ Code r c ∧ (∀ p, p < s.size → wg c p = wg s p) ∧ Ev (fun k => foghornref19_Encode.f k s (r : Int)) (c, 0) := by
  have h2 := h.r2
  have h64 := h.r64
  have hn := h.rn
  have h255 := h.n255
  obtain ⟨P, h1, h3⟩ := enc_loop s r h255 s.size (s.size + r) (mov s (s.size + r) s.size) (by omega) (Nat.le_refl _) (fun k hk hk2 => absurd hk (by omega)) (fun j _ => rfl)
  refine ⟨_, str_size _ _, h1, fun p hp => ?_, ?_⟩
  · rw [str_wg _ _ p (by omega)]
    unfold encP
    rw [if_pos hp]
  · unfold foghornref19_Encode.f
    have e : wrap64 ((s.size : Int) + (r : Int)) = ((s.size + r : Nat) : Int) := by unfold wrap64; omega
    refine ev_neg (by omega) (ev_neg (by omega) ?_)
    rw [e, c19_ok h]
    refine ev_some ?_
    have hb : ((0 : Int) != 0) = false := rfl
    generalize ((0 : Int) != 0) = b at hb ⊢
    refine (Ev.step (fun k => rfl) (ev_neg (by rw [hb]; decide) (Ev.bind (gen_ev r h2 h64 h.even) (ev_pos (by rw [e]; omega) (ev_pos (by rw [e]; omega) ?_)))))
    rw [e, show (((s.size + r : Nat) : Int)).toNat = s.size + r from by omega, gl_zeros]
    have h4 := enc_fill s r h255 (gl (r + 1) (gen r)) _ h3 s.size 0 (by omega)
    have e2 : gl (s.size + r) (mov s (s.size + r) 0) = gl (s.size + r) (fun _ => g0) := gl_congr fun k _ => by unfold mov; rw [if_neg (by omega)]
    rw [e2] at h4
    exact h4
end Go.Proofs.Ytdgeapgfpikcmaa.Hand

/-
  The laws' own helpers: sent, Numbers; the pure law of MendReach.
-/
namespace Go.Proofs.Ytdgeapgfpikcmaa.Hand
open Go.RowKit Gf Go.Proofs.Ytdgeapgfpikcmaa.Q Go.Proofs.YtdgeapgfpikcmaaV.PrintWords Go.Proofs.YtdgeapgfpikcmaaV.PrintLast Go.Proofs.YtdgeapgfpikcmaaV.PrintMore

theorem toList_nil (s : ByteArray) : s.toList = [] ↔ s.size = 0 := by
  rw [ByteArray.toList_eq]
  have : s.size = s.data.toList.length := by rw [Array.length_toList]; rfl
  rw [this]
  exact List.length_eq_zero_iff.symm
theorem tmod32 (r : Int) : -32 < Int.tmod r 32 ∧ Int.tmod r 32 < 32 ∧ (0 ≤ r → 0 ≤ Int.tmod r 32) := by
  by_cases h : 0 ≤ r
  · rw [Int.tmod_eq_emod_of_nonneg h]; omega
  · have e : Int.tmod r 32 = -(Int.tmod (-r) 32) := by rw [Int.neg_tmod, Int.neg_neg]
    rw [e, Int.tmod_eq_emod_of_nonneg (by omega)]
    omega
theorem sent_ev (s : ByteArray) (r : Int) (hs : s.size ≤ 140737488351232) : ∃ (c : ByteArray) (q : Nat), Fit c.size q ∧ Code q c ∧ Ev (fun k => foghornlaw20_sent.f k s r) (c, (q : Int)) := by
  unfold foghornlaw20_sent.f
  obtain ⟨q, hq⟩ : ∃ q : Nat, wrap64 (2 + (wrap64 (2 * (Int.tmod (wrap64 ((Int.tmod r 32) + 32)) 32)))) = (q : Int) ∧ 2 ≤ q ∧ q ≤ 64 ∧ q % 2 = 0 := by
    have t1 := tmod32 r
    have t2 := tmod32 (Int.tmod r 32 + 32)
    have t3 := t2.2.2 (by omega)
    have h1 : wrap64 ((Int.tmod r 32) + 32) = Int.tmod r 32 + 32 := by unfold wrap64; omega
    rw [h1]
    have h2 : wrap64 (2 + wrap64 (2 * (Int.tmod (Int.tmod r 32 + 32) 32))) = 2 + 2 * (Int.tmod (Int.tmod r 32 + 32) 32) := by unfold wrap64; omega
    rw [h2]
    exact ⟨(2 + 2 * (Int.tmod (Int.tmod r 32 + 32) 32)).toNat, by omega, by omega, by omega, by omega⟩
  obtain ⟨hq, q2, q64, qe⟩ := hq
  rw [hq]
  have e : wrap64 (255 - (q : Int)) = ((255 - q : Nat) : Int) := by unfold wrap64; omega
  rw [e]
  have enc : ∀ t : ByteArray, 0 < t.size → t.size + q ≤ 255 → ∃ c : ByteArray, Fit c.size q ∧ Code q c ∧ Ev (fun k => (foghornref19_Encode.f k t (q : Int)).bind fun bt => some (bt.1, (q : Int))) (c, (q : Int)) := by
    intro t h1 h2
    have hf : Fit (t.size + q) q := ⟨q2, q64, qe, by omega, h2⟩
    obtain ⟨c, hc, hw, _, he⟩ := enc_ev t q hf
    exact ⟨c, by rw [hc]; exact hf, hw, Ev.bind he (Ev.now _)⟩
  have ha : (⟨#[97]⟩ : ByteArray).size = 1 := rfl
  by_cases h1 : s.size > 255 - q
  · have hx : (s.extract 0 (((255 - q : Nat) : Int)).toNat).size = 255 - q := by
      rw [ByteArray.size_extract]; omega
    obtain ⟨c, h3, h4, h5⟩ := enc (s.extract 0 (((255 - q : Nat) : Int)).toNat) (by omega) (by omega)
    exact ⟨c, q, h3, h4, ev_pos (by omega) (ev_pos (by omega) (ev_pos (by omega) (ev_neg (fun h => by rw [toList_nil] at h; omega) h5)))⟩
  · by_cases h2 : s.size = 0
    · obtain ⟨c, h3, h4, h5⟩ := enc (⟨#[97]⟩ : ByteArray) (by rw [ha]; omega) (by rw [ha]; omega)
      exact ⟨c, q, h3, h4, ev_neg (by omega) (ev_pos ((toList_nil s).2 h2) h5)⟩
    · obtain ⟨c, h3, h4, h5⟩ := enc s (by omega) (by omega)
      exact ⟨c, q, h3, h4, ev_neg (by omega) (ev_neg (fun h => h2 ((toList_nil s).1 h)) h5)⟩
theorem numbers_loop (l : List Int) (hl : l.length ≤ 9223372036854775807) (d : Nat) : ∀ i, l.length = i + d → Ev (fun k => foghornref20_Numbers.l0 k l l (i : Int)) true := by
  induction d with
  | zero => intro i hi; exact Ev.step (fun k => rfl) (ev_neg (by omega) (Ev.now _))
  | succ d ih =>
    intro i hi
    refine Ev.step (fun k => rfl) (ev_pos (by omega) (ev_pos (by omega) (ev_pos (by omega) (ev_pos rfl ?_))))
    rw [show (i : Int) + 1 = ((i + 1 : Nat) : Int) from by omega, wrap_nat (by omega)]
    exact ih (i + 1) (by omega)
theorem numbers_ev (l : List Int) (hl : l.length ≤ 9223372036854775807) : Ev (fun k => foghornref20_Numbers.f k l l) true :=
  ev_pos rfl (numbers_loop l hl l.length 0 (by omega))
theorem fil_mem (n : Nat) (B : Nat → Bool) (p : Nat) : (p : Int) ∈ fil n B ↔ p < n ∧ B p = true := by
  unfold fil
  rw [List.mem_map]
  constructor
  · rintro ⟨q, hq, he⟩
    have : q = p := Int.ofNat.inj he
    subst this
    have := List.mem_filter.1 hq
    exact ⟨List.mem_range.1 this.1, this.2⟩
  · rintro ⟨h1, h2⟩
    exact ⟨p, List.mem_filter.2 ⟨List.mem_range.2 h1, h2⟩, rfl⟩
theorem fil_good (n : Nat) (B : Nat → Bool) : GoodL n (fil n B) := by
  refine ⟨fun p hp => ?_, ?_⟩
  · unfold fil at hp
    obtain ⟨q, hq, rfl⟩ := List.mem_map.1 hp
    have := List.mem_range.1 (List.mem_filter.1 hq).1
    exact ⟨Int.natCast_nonneg q, by show (q : Int) < n; omega⟩
  · unfold fil
    refine List.Pairwise.map _ (fun a b h he => h (Int.ofNat.inj he)) ((List.nodup_range).filter _)
theorem good_rev {n : Nat} {l : List Int} (h : GoodL n l) : GoodL n l.reverse := ⟨fun p hp => h.1 p (List.mem_reverse.1 hp), (List.reverse_perm l).nodup_iff.2 h.2⟩

/-- what has befallen each place: 0 nothing, 1 wrong, 2 lost -/
def il (n : Nat) (I : Nat → Nat) : List Int := (List.range n).map fun p => (I p : Int)
theorem il_len (n : Nat) (I : Nat → Nat) : (il n I).length = n := by simp [il]
theorem il_get (n : Nat) (I : Nat → Nat) (j : Nat) (hj : j < n) : rd (il n I) (j : Int) = (I j : Int) := by
  simp [il, rd, List.getD_eq_getElem?_getD, hj]
theorem il_set {n : Nat} {I : Nat → Nat} (j : Nat) (x : Nat) : (il n I).set j (x : Int) = il n (fun k => if k = j then x else I k) := by
  refine List.ext_getElem (by simp [il]) fun k h1 h3 => ?_
  by_cases hk : j = k
  · subst hk; simp [il]
  · simp [il, List.getElem_set_ne hk, Ne.symm hk]
theorem il_zeros (n : Nat) : List.replicate n (0 : Int) = il n (fun _ => 0) := by
  refine List.ext_getElem (by simp [il]) fun k h1 h3 => ?_
  simp [il]
/-- the harm done so far -/
structure Harmed (s : ByteArray) (r : Nat) (B : Nat → G) (I : Nat → Nat) (left : Nat) : Prop where
  two : ∀ p, I p ≤ 2
  none : ∀ p, p < s.size → I p = 0 → B p = wg s p
  wrong : ∀ p, p < s.size → I p = 1 → B p ≠ wg s p
  left : left + 2 * cnt s.size (fun p => decide (I p = 1)) + cnt s.size (fun p => decide (I p = 2)) = r
theorem cnt_set {n j : Nat} (hj : j < n) {P : Nat → Bool} (hP : P j = false) : cnt n (fun k => if k = j then true else P k) = cnt n P + 1 := by
  have h := cnt_but (n := n) (P := fun k => if k = j then true else P k) j hj (by simp)
  rw [← h]
  congr 1
  apply cnt_congr
  intro i _
  by_cases hi : i = j
  · subst hi; simp [hP]
  · simp [hi]
/-- the second half: what is asked, and what is told -/
theorem reach_tail (s : ByteArray) (r : Nat) (hf : Fit s.size r) (hw : Code r s) (B : Nat → G) (I : Nat → Nat) (left : Nat) (h : Harmed s r B I left) (d : Nat) : ∀ p, s.size = p + d →
    Ev (fun k => foghornlaw20_MendReach.l1 k (r : Int) s (gl s.size B) (il s.size I) (fil p (fun q => decide (I q = 1))) (fil p (fun q => decide (I q = 2))) (fil p (fun q => decide (I q = 2))).reverse (p : Int)) true := by
  have hn := hf.n255
  induction d with
  | zero =>
    intro p hp
    obtain rfl : p = s.size := by omega
    have hz : (strOfNums (gl s.size B)).size = s.size := str_size _ _
    have hlost : ∀ q, q < s.size → lostB (fil s.size (fun q => decide (I q = 2))).reverse q = decide (I q = 2) := fun q hq => by
      unfold lostB
      refine decide_eq_decide.2 ?_
      rw [List.mem_reverse, fil_mem]
      exact ⟨fun h => of_decide_eq_true h.2, fun h => ⟨hq, decide_eq_true h⟩⟩
    have hun : ∀ q, q < s.size → unB (strOfNums (gl s.size B)) s (lostB (fil s.size (fun q => decide (I q = 2))).reverse) q = decide (I q = 1) := fun q hq => by
      unfold unB
      rw [hlost q hq, str_wg _ _ q hq]
      have h2 := h.two q
      by_cases h0 : I q = 0
      · rw [h.none q hq h0, h0]; simp
      · by_cases h1 : I q = 1
        · rw [h1]; simp [h.wrong q hq h1]
        · rw [show I q = 2 from by omega]; simp
    have hnear : Near r (strOfNums (gl s.size B)) s (fil s.size (fun q => decide (I q = 2))).reverse := by
      unfold Near
      rw [hz, cnt_congr hun, List.length_reverse, fil_len]
      have := h.left
      omega
    have hm := Mend_found (strOfNums (gl s.size B)) r (by rw [hz]; exact hf) (fil s.size (fun q => decide (I q = 2))).reverse (by rw [hz]; exact good_rev (fil_good _ _)) s hz.symm hw hnear
    rw [hz, fil_congr hun, fil_congr hlost] at hm
    refine Ev.step (fun k => rfl) (ev_neg (by rw [il_len]; omega) (Ev.bind hm (ev_pos rfl (ev_pos rfl (Ev.bind (numbers_ev _ ?_) (ev_pos rfl (Ev.bind (numbers_ev _ ?_) (Ev.now _))))))))
    · show (fil s.size (fun q => decide (I q = 1))).length ≤ _
      have := fil_le s.size (fun q => decide (I q = 1)); omega
    · show (fil s.size (fun q => decide (I q = 2))).length ≤ _
      have := fil_le s.size (fun q => decide (I q = 2)); omega
  | succ d ih =>
    intro p hp
    have hq := ih (p + 1) (by omega)
    rw [fil_succ, fil_succ] at hq
    have hlen1 := fil_le p (fun q => decide (I q = 1))
    have hlen2 := fil_le p (fun q => decide (I q = 2))
    refine Ev.step (fun k => rfl) (ev_pos (by rw [il_len]; omega) (ev_pos (by omega) ?_))
    rw [il_get s.size I p (by omega), show (p : Int) + 1 = ((p + 1 : Nat) : Int) from by omega, wrap_nat (by omega)]
    by_cases h1 : I p = 1
    · refine ev_pos (by omega) (ev_pos (by omega) (ev_some (ev_neg (by omega) ?_)))
      rw [if_pos (decide_eq_true h1), if_neg (by rw [h1]; decide)] at hq
      exact hq
    · refine ev_neg (by omega) ?_
      rw [if_neg (by simpa using h1)] at hq
      by_cases h2 : I p = 2
      · refine ev_pos (by omega) (ev_pos (by omega) (ev_some (ev_pos ?_ ?_)))
        · rw [List.length_reverse]
          show 1 + _ < _
          omega
        · rw [if_pos (decide_eq_true h2), List.reverse_append] at hq
          exact hq
      · refine ev_neg (by omega) ?_
        rw [if_neg (by simpa using h2)] at hq
        exact hq
end Go.Proofs.Ytdgeapgfpikcmaa.Hand
