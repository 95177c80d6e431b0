import Derived.Test.YtdgeapgfpikcmaaM1
import Derived.Test.YtdgeapgfpikcmaaQx4
/-
  What the printed functions give, over the field: syndromes, whole words, the polynomial of the lost places.
-/
namespace Go.Proofs.Ytdgeapgfpikcmaa.Hand
open Go.RowKit Gf Go.Proofs.Ytdgeapgfpikcmaa.Q Go.Proofs.YtdgeapgfpikcmaaV.PrintWords Go.Proofs.YtdgeapgfpikcmaaV.PrintLast Go.Proofs.YtdgeapgfpikcmaaV.PrintMore

theorem ev_pos {α : Type} {c : Prop} [Decidable c] {A B : Nat → Option α} {q : α} (h : c) (k : Ev A q) : Ev (fun n => if c then A n else B n) q := Ev.congr (fun _ => if_pos h) k
theorem ev_neg {α : Type} {c : Prop} [Decidable c] {A B : Nat → Option α} {q : α} (h : ¬ c) (k : Ev B q) : Ev (fun n => if c then A n else B n) q := Ev.congr (fun _ => if_neg h) k
theorem ev_some {α β : Type} {x : α} {A : Nat → α → Option β} {q : β} (k : Ev (fun n => A n x) q) : Ev (fun n => (some x).bind (A n)) q := Ev.congr (fun _ => rfl) k
theorem ev_to {α : Type} {A : Nat → Option α} {q q' : α} (k : Ev A q) (h : q = q') : Ev A q' := h ▸ k
theorem wrap_nat {n : Nat} (h : n ≤ 9223372036854775807) : wrap64 (n : Int) = (n : Int) := by unfold wrap64; omega
theorem times_ev (a b : G) : Ev (fun k => field_Times.f k (gi a) (gi b)) (gi (a * b)) := ⟨9, fun k hk => times_eq a b k hk⟩
theorem exp_ev (n : Nat) (hn : n ≤ 9223372036854775807) : Ev (fun k => field_Exp.f k (n : Int)) (gi (px n)) := ⟨18, fun k hk => exp_eq n k hn hk⟩
theorem unit_ev (n p : Nat) (hp : p < n) (hn : n ≤ 9223372036854775807) : Ev (fun k => mend_unit.f k (p : Int) (n : Int)) (gi (px (n - 1 - p))) := ⟨18, fun k hk => unit_eq n p k hp hn hk⟩
theorem gl_set {n : Nat} {P : Nat → G} (j : Nat) (x : G) : (gl n P).set j (gi x) = gl n (fun k => if k = j then x else P k) := by
  refine List.ext_getElem (by simp [gl]) fun k h1 h3 => ?_
  by_cases hk : j = k
  · subst hk; simp [gl]
  · simp [gl, List.getElem_set_ne hk, Ne.symm hk]
theorem gl_congr {n : Nat} {P P' : Nat → G} (h : ∀ j, j < n → P j = P' j) : gl n P = gl n P' := List.map_congr_left fun j hj => by rw [h j (List.mem_range.1 hj)]
theorem gl_zeros (n : Nat) : List.replicate n (0 : Int) = gl n (fun _ => g0) := by
  refine List.ext_getElem (by simp [gl]) fun k h1 h3 => ?_
  simp [gl]; rfl
theorem gl_app (n : Nat) (P : Nat → G) (x : G) : gl n P ++ [gi x] = gl (n + 1) (fun k => if k = n then x else P k) := by
  refine List.ext_getElem (by simp [gl]) fun k h1 h3 => ?_
  simp only [gl, List.length_append, List.length_map, List.length_range, List.length_singleton] at h1
  by_cases hk : k < n
  · rw [List.getElem_append_left (by simpa [gl] using hk)]
    simp [gl, show k ≠ n from by omega]
  · have : k = n := by omega
    subst this
    rw [List.getElem_append_right (by simp [gl])]
    simp [gl]
/-- the syndromes of a word -/
def sy (s : ByteArray) (j : Nat) : G := syd s.size (wg s) (xat s.size) j
/-- a word's value while it is made up -/
def hor (s : ByteArray) (x : G) (m : Nat) : G := sm m (fun i => wg s i * pw x (m - 1 - i))
theorem hor_step (s : ByteArray) (x : G) (m : Nat) : hor s x (m + 1) = hor s x m * x + wg s m := by
  unfold hor
  show sm m _ + wg s m * pw x (m + 1 - 1 - m) = _
  rw [show m + 1 - 1 - m = 0 from by omega]
  show _ + wg s m * g1 = _
  rw [mul_one, ← sm_mul']
  congr 1
  apply sm_congr
  intro i hi
  rw [mul_assoc, show m + 1 - 1 - i = m - 1 - i + 1 from by omega]
  rfl
theorem hor_sy (s : ByteArray) (j : Nat) : hor s (px j) s.size = sy s j := by
  unfold hor sy syd
  apply sm_congr
  intro i _
  rw [pw_px, pw_px, Nat.mul_comm]
theorem check_ok {n r : Nat} (h2 : 2 ≤ r) (h64 : r ≤ 64) (he : r % 2 = 0) (hn : r < n) (hn2 : n ≤ 255) : reed_Check.f (n : Int) (r : Int) = some 0 := by
  unfold reed_Check.f reed_checks.f
  have : (Int.tmod (r : Int) 2 == 0) = true := by rw [Int.tmod_eq_emod_of_nonneg (by omega)]; simp; omega
  rw [if_pos (by omega), if_pos (by omega), Option.bind_some, this, if_pos rfl, if_neg (by omega), if_neg (by omega)]
theorem syn_inner (s : ByteArray) (hs : s.size ≤ 255) (x : G) (r j : Nat) (hj : j < r) (b c : Int) (q : List Int × Int) (d : Nat) : ∀ (m : Nat) (P : Nat → G), s.size = m + d → P j = hor s x m →
    Ev (fun k => reed_Syndromes.l0 k s (gl r (fun i => if i = j then hor s x s.size else P i)) b (wrap64 (c + 1))) q →
    Ev (fun k => reed_Syndromes.l1 k s (gl r P) (j : Int) (gi x) b c (s.size : Int) (m : Int)) q := by
  induction d with
  | zero =>
    intro m P hm hP h
    refine Ev.step (fun k => rfl) (ev_neg (by omega) ?_)
    have e : gl r (fun i => if i = j then hor s x s.size else P i) = gl r P := gl_congr fun i _ => by
      by_cases hi : i = j
      · rw [if_pos hi, hi, hP, hm]; rfl
      · rw [if_neg hi]
    rw [e] at h
    exact h
  | succ d ih =>
    intro m P hm hP h
    refine Ev.step (fun k => rfl) (ev_pos (by omega) (ev_pos (by omega) (ev_pos (by rw [gl_len]; omega) ?_)))
    rw [gl_get r P j hj]
    refine Ev.bind (times_ev _ _) (ev_pos (by omega) (ev_pos (by omega) ?_))
    rw [← gi_wg, bits_xor, show ((j : Int)).toNat = j from by omega, gl_set, show (m : Int) + 1 = ((m + 1 : Nat) : Int) from by omega, wrap_nat (by omega)]
    refine ih (m + 1) _ (by omega) ?_ ?_
    · show (if j = j then _ else _) = _
      rw [if_pos rfl, hP, hor_step]
    · refine ev_to (A := fun k => reed_Syndromes.l0 k s (gl r (fun i => if i = j then hor s x s.size else (if i = j then P j * x + wg s m else P i))) b (wrap64 (c + 1))) ?_ rfl
      have e : gl r (fun i => if i = j then hor s x s.size else (if i = j then P j * x + wg s m else P i)) = gl r (fun i => if i = j then hor s x s.size else P i) := gl_congr fun i _ => by
        by_cases hi : i = j
        · rw [if_pos hi, if_pos hi]
        · rw [if_neg hi, if_neg hi, if_neg hi]
      rw [e]
      exact h
theorem syn_outer (s : ByteArray) (hs : s.size ≤ 255) (r : Nat) (hr : r ≤ 64) (d : Nat) : ∀ j, r = j + d → Ev (fun k => reed_Syndromes.l0 k s (gl r (fun i => if i < j then sy s i else g0)) (r : Int) (j : Int)) (gl r (sy s), 0) := by
  induction d with
  | zero =>
    intro j hj
    refine Ev.step (fun k => rfl) (ev_neg (by omega) ?_)
    rw [gl_congr (P' := sy s) fun i hi => if_pos (by omega)]
    exact Ev.now _
  | succ d ih =>
    intro j hj
    refine Ev.step (fun k => rfl) (ev_pos (by omega) (Ev.bind (exp_ev j (by omega)) ?_))
    refine syn_inner s hs (px j) r j (by omega) _ _ _ s.size 0 _ (by omega) ?_ ?_
    · show (if j < j then _ else _) = _
      rw [if_neg (by omega)]; rfl
    · rw [show (j : Int) + 1 = ((j + 1 : Nat) : Int) from by omega, wrap_nat (by omega), hor_sy]
      have e : gl r (fun i => if i = j then sy s j else (if i < j then sy s i else g0)) = gl r (fun i => if i < j + 1 then sy s i else g0) := gl_congr fun i _ => by
        by_cases hi : i = j
        · rw [if_pos hi, if_pos (by omega), hi]
        · rw [if_neg hi]
          by_cases h2 : i < j
          · rw [if_pos h2, if_pos (by omega)]
          · rw [if_neg h2, if_neg (by omega)]
      rw [e]
      exact ih (j + 1) (by omega)
/-- sizes that may be -/
structure Fit (n r : Nat) : Prop where
  r2 : 2 ≤ r
  r64 : r ≤ 64
  even : r % 2 = 0
  rn : r < n
  n255 : n ≤ 255
theorem syn_ev (s : ByteArray) (r : Nat) (h : Fit s.size r) : Ev (fun k => reed_Syndromes.f k s (r : Int)) (gl r (sy s), 0) := by
  have h1 := h.r64
  unfold reed_Syndromes.f
  rw [check_ok h.r2 h.r64 h.even h.rn h.n255]
  refine ev_some (ev_pos rfl (ev_pos (by omega) (ev_pos (by omega) (ev_some ?_))))
  rw [show ((r : Int)).toNat = r from by omega, List.length_replicate, gl_zeros]
  have := syn_outer s h.n255 r h.r64 r 0 (by omega)
  rw [gl_congr (P' := fun _ => g0) fun i _ => if_neg (Nat.not_lt_zero _)] at this
  exact this
/-- a codeword -/
def Code (r : Nat) (s : ByteArray) : Prop := ∀ j, j < r → sy s j = g0
instance (r : Nat) (s : ByteArray) : Decidable (Code r s) := Nat.decidableBallLT r (fun j _ => sy s j = g0)
theorem whole_loop (r : Nat) (hr : r ≤ 64) (P : Nat → G) (d : Nat) : ∀ j, r = j + d → (∀ i, i < j → P i = g0) → Ev (fun k => reed_Whole.l0 k (gl r P) (r : Int) (j : Int)) (decide (∀ i, i < r → P i = g0), 0) := by
  induction d with
  | zero =>
    intro j hj hz
    refine Ev.step (fun k => rfl) (ev_neg (by omega) ?_)
    rw [decide_eq_true (fun i hi => hz i (by omega))]
    exact Ev.now _
  | succ d ih =>
    intro j hj hz
    refine Ev.step (fun k => rfl) (ev_pos (by omega) (ev_pos (by omega) (ev_pos (by rw [gl_len]; omega) ?_)))
    rw [gl_get r P j (by omega)]
    by_cases h : P j = g0
    · refine ev_pos (by rw [h]; rfl) ?_
      rw [show (j : Int) + 1 = ((j + 1 : Nat) : Int) from by omega, wrap_nat (by omega)]
      refine ih (j + 1) (by omega) fun i hi => ?_
      by_cases h2 : i < j
      · exact hz i h2
      · rw [show i = j from by omega]; exact h
    · refine ev_neg (fun h2 => h (gi_inj (by rw [h2]; rfl))) ?_
      rw [decide_eq_false (fun h2 => h (h2 j (by omega)))]
      exact Ev.now _
theorem whole_ev (s : ByteArray) (r : Nat) (h : Fit s.size r) : Ev (fun k => reed_Whole.f k s (r : Int)) (decide (Code r s), 0) := by
  unfold reed_Whole.f
  refine Ev.bind (syn_ev s r h) (ev_pos rfl ?_)
  show Ev (fun k => reed_Whole.l0 k (gl r (sy s)) ((gl r (sy s)).length : Int) 0) _
  rw [gl_len]
  exact whole_loop r h.r64 (sy s) r 0 (by omega) (fun i hi => absurd hi (Nat.not_lt_zero _))
end Go.Proofs.Ytdgeapgfpikcmaa.Hand

/-
  What the printed functions give: places, the lost places' polynomial, the places that are unlike.
-/
namespace Go.Proofs.Ytdgeapgfpikcmaa.Hand
open Go.RowKit Gf Go.Proofs.Ytdgeapgfpikcmaa.Q Go.Proofs.YtdgeapgfpikcmaaV.PrintWords Go.Proofs.YtdgeapgfpikcmaaV.PrintLast Go.Proofs.YtdgeapgfpikcmaaV.PrintMore

/-- bools by their places -/
def bls (n : Nat) (B : Nat → Bool) : List Bool := (List.range n).map B
theorem bls_len (n : Nat) (B : Nat → Bool) : (bls n B).length = n := by simp [bls]
theorem bls_get (n : Nat) (B : Nat → Bool) (j : Nat) (hj : j < n) : rdOf false (bls n B) (j : Int) = B j := by
  simp [bls, rdOf, List.getD_eq_getElem?_getD, hj]
theorem bls_set {n : Nat} {B : Nat → Bool} (j : Nat) (x : Bool) : (bls n B).set j x = bls n (fun k => if k = j then x else B k) := by
  refine List.ext_getElem (by simp [bls]) fun k h1 h3 => ?_
  by_cases hk : j = k
  · subst hk; simp [bls]
  · simp [bls, List.getElem_set_ne hk, Ne.symm hk]
theorem bls_congr {n : Nat} {B B' : Nat → Bool} (h : ∀ j, j < n → B j = B' j) : bls n B = bls n B' := List.map_congr_left fun j hj => by rw [h j (List.mem_range.1 hj)]
theorem bls_false (n : Nat) : List.replicate n false = bls n (fun _ => false) := by
  refine List.ext_getElem (by simp [bls]) fun k h1 h3 => ?_
  simp [bls]
/-- these are places of n, none twice -/
def GoodL (n : Nat) (l : List Int) : Prop := (∀ p, p ∈ l → 0 ≤ p ∧ p < n) ∧ l.Nodup
instance (n : Nat) (l : List Int) : Decidable (GoodL n l) := by unfold GoodL; infer_instance
def lostB (l : List Int) (p : Nat) : Bool := decide ((p : Int) ∈ l)
theorem take_more (l : List Int) (i : Nat) (h : i < l.length) : l.take (i + 1) = l.take i ++ [rd l (i : Int)] := by
  rw [List.take_add_one]
  simp [rd, List.getD_eq_getElem?_getD, h]
theorem rd_mem (l : List Int) (i : Nat) (h : i < l.length) : rd l (i : Int) ∈ l := by
  simp [rd, List.getD_eq_getElem?_getD, h]
theorem good_take {n : Nat} {l : List Int} (h : GoodL n l) (i : Nat) : GoodL n (l.take i) := ⟨fun p hp => h.1 p (List.mem_of_mem_take hp), h.2.sublist (List.take_sublist i l)⟩
theorem good_next {n : Nat} {l : List Int} {i : Nat} (hi : i < l.length) (h : GoodL n (l.take i)) (h0 : 0 ≤ rd l (i : Int)) (h1 : rd l (i : Int) < n) (h2 : rd l (i : Int) ∉ l.take i) : GoodL n (l.take (i + 1)) := by
  rw [take_more l i hi]
  refine ⟨fun p hp => ?_, ?_⟩
  · rcases List.mem_append.1 hp with hp | hp
    · exact h.1 p hp
    · rw [List.mem_singleton.1 hp]; exact ⟨h0, h1⟩
  · rw [List.nodup_append]
    refine ⟨h.2, by simp, fun a ha b hb => ?_⟩
    rw [List.mem_singleton.1 hb]
    rintro rfl
    exact h2 ha
theorem good_dup {n : Nat} {l : List Int} {i : Nat} (hi : i < l.length) (h : GoodL n l) : rd l (i : Int) ∉ l.take i := by
  have h2 := (good_take h (i + 1)).2
  rw [take_more l i hi, List.nodup_append] at h2
  exact fun hm => h2.2.2 _ hm _ (List.mem_singleton.2 rfl) rfl
theorem marked_loop (n : Nat) (l : List Int) (hl : l.length ≤ 9223372036854775807) (d : Nat) : ∀ i, l.length = i + d → GoodL n (l.take i) →
    (GoodL n l → Ev (fun k => mend_marked.l0 k (n : Int) (bls n (lostB (l.take i))) true l (l.length : Int) (i : Int)) (bls n (lostB l), true)) ∧
    (¬ GoodL n l → ∃ m, Ev (fun k => mend_marked.l0 k (n : Int) (bls n (lostB (l.take i))) true l (l.length : Int) (i : Int)) (m, false)) := by
  induction d with
  | zero =>
    intro i hi hg
    have e : l.take i = l := List.take_of_length_le (by omega)
    refine ⟨fun _ => Ev.step (fun k => rfl) (ev_neg (by omega) ?_), fun hn => absurd (e ▸ hg) hn⟩
    rw [e]
    exact Ev.now _
  | succ d ih =>
    intro i hi hg
    have hil : i < l.length := by omega
    have hm := rd_mem l i hil
    by_cases h0 : rd l (i : Int) < 0
    · refine ⟨fun h => absurd (h.1 _ hm).1 (by omega), fun _ => ⟨_, Ev.step (fun k => rfl) (ev_pos (by omega) (ev_pos (by omega) (ev_pos (by omega) (ev_pos h0 (Ev.now _)))))⟩⟩
    · by_cases h1 : rd l (i : Int) ≥ n
      · refine ⟨fun h => absurd (h.1 _ hm).2 (by omega), fun _ => ⟨_, Ev.step (fun k => rfl) (ev_pos (by omega) (ev_pos (by omega) (ev_pos (by omega) (ev_neg h0 (ev_pos h1 (Ev.now _))))))⟩⟩
      · obtain ⟨p, hp⟩ : ∃ p : Nat, rd l (i : Int) = (p : Int) := ⟨(rd l (i : Int)).toNat, by omega⟩
        have hpn : p < n := by omega
        by_cases h2 : rd l (i : Int) ∈ l.take i
        · refine ⟨fun h => absurd h2 (good_dup hil h), fun _ => ⟨_, Ev.step (fun k => rfl) (ev_pos (by omega) (ev_pos (by omega) (ev_pos (by omega) (ev_neg h0 (ev_neg h1 (ev_pos (by omega) (ev_pos (by rw [bls_len]; omega) (ev_pos ?_ (Ev.now _)))))))))⟩⟩
          rw [hp, bls_get n _ p hpn]
          rw [hp] at h2
          exact decide_eq_true h2
        · have hg' := good_next hil hg (by omega) (by omega) h2
          have hstep : ∀ q, Ev (fun k => mend_marked.l0 k (n : Int) (bls n (lostB (l.take (i + 1)))) true l (l.length : Int) ((i + 1 : Nat) : Int)) q → Ev (fun k => mend_marked.l0 k (n : Int) (bls n (lostB (l.take i))) true l (l.length : Int) (i : Int)) q := by
            intro q hq
            refine Ev.step (fun k => rfl) (ev_pos (by omega) (ev_pos (by omega) (ev_pos (by omega) (ev_neg h0 (ev_neg h1 (ev_pos (by omega) (ev_pos (by rw [bls_len]; omega) (ev_neg ?_ ?_))))))))
            · rw [hp, bls_get n _ p hpn]
              rw [hp] at h2
              simpa [lostB] using h2
            · rw [show (i : Int) + 1 = ((i + 1 : Nat) : Int) from by omega, wrap_nat (by omega), hp, show ((p : Int)).toNat = p from by omega, bls_set]
              have e : bls n (fun k => if k = p then true else lostB (l.take i) k) = bls n (lostB (l.take (i + 1))) := bls_congr fun j _ => by
                unfold lostB
                rw [take_more l i hil, hp]
                by_cases hj : j = p
                · rw [if_pos hj]; simp [hj]
                · rw [if_neg hj]; simp; omega
              rw [e]
              exact hq
          obtain ⟨q1, q2⟩ := ih (i + 1) (by omega) hg'
          exact ⟨fun h => hstep _ (q1 h), fun h => (q2 h).imp fun m hm => hstep _ hm⟩
theorem marked_ev (n : Nat) (hn : n ≤ 255) (l : List Int) (hl : l.length ≤ 9223372036854775807) :
    (GoodL n l → Ev (fun k => mend_marked.f k l (n : Int)) (bls n (lostB l), true)) ∧ (¬ GoodL n l → ∃ m, Ev (fun k => mend_marked.f k l (n : Int)) (m, false)) := by
  obtain ⟨q1, q2⟩ := marked_loop n l hl l.length 0 (by omega) ⟨fun p hp => by simp at hp, by simp⟩
  have hstep : ∀ q, Ev (fun k => mend_marked.l0 k (n : Int) (bls n (lostB (l.take 0))) true l (l.length : Int) ((0 : Nat) : Int)) q → Ev (fun k => mend_marked.f k l (n : Int)) q := by
    intro q hq
    refine ev_pos (by omega) (ev_pos (by omega) ?_)
    rw [show ((n : Int)).toNat = n from by omega, bls_false]
    have e : bls n (lostB (l.take 0)) = bls n (fun _ => false) := bls_congr fun j _ => by simp [lostB]
    rw [e] at hq
    exact hq
  exact ⟨fun h => hstep _ (q1 h), fun h => (q2 h).imp fun m hm => hstep _ hm⟩

/-- the places, but for the lost ones, at which two words are unlike -/
def unB (s t : ByteArray) (B : Nat → Bool) (p : Nat) : Bool := decide (wg s p ≠ wg t p) && !B p
/-- the places of which this holds -/
def fil (n : Nat) (B : Nat → Bool) : List Int := ((List.range n).filter B).map Int.ofNat
theorem fil_succ (n : Nat) (B : Nat → Bool) : fil (n + 1) B = if B n = true then fil n B ++ [(n : Int)] else fil n B := by
  unfold fil
  rw [List.range_succ, List.filter_append]
  by_cases h : B n = true
  · rw [if_pos h]; simp [h]
  · rw [if_neg h]; simp [h]
theorem fil_len (n : Nat) (B : Nat → Bool) : (fil n B).length = cnt n B := by
  induction n with
  | zero => rfl
  | succ n ih =>
    rw [fil_succ]
    unfold cnt
    by_cases h : B n = true
    · rw [if_pos h]; simp [ih, h]
    · rw [if_neg h]; simp [ih, h]
theorem fil_le (n : Nat) (B : Nat → Bool) : (fil n B).length ≤ n := by
  unfold fil
  rw [List.length_map]
  exact Nat.le_trans (List.length_filter_le _ _) (by simp)
theorem fil_congr {n : Nat} {B B' : Nat → Bool} (h : ∀ j, j < n → B j = B' j) : fil n B = fil n B' := by
  unfold fil
  rw [List.filter_congr fun j hj => h j (List.mem_range.1 hj)]
theorem unlike_loop (s t : ByteArray) (hst : s.size = t.size) (hs : s.size ≤ 255) (B : Nat → Bool) (d : Nat) : ∀ i, s.size = i + d →
    Ev (fun k => mend_unlike.l0 k s t (bls s.size B) (fil i (unB s t B)) (s.size : Int) (i : Int)) (fil s.size (unB s t B)) := by
  induction d with
  | zero =>
    intro i hi
    refine Ev.step (fun k => rfl) (ev_neg (by omega) ?_)
    rw [show s.size = i from by omega]
    exact Ev.now _
  | succ d ih =>
    intro i hi
    have h := ih (i + 1) (by omega)
    rw [fil_succ] at h
    refine Ev.step (fun k => rfl) (ev_pos (by omega) (ev_pos (by omega) (ev_pos (by omega) (ev_pos (by omega) ?_))))
    rw [show (i : Int) + 1 = ((i + 1 : Nat) : Int) from by omega, wrap_nat (by omega)]
    by_cases h1 : wg s i = wg t i
    · have hb : unB s t B i = false := by simp [unB, h1]
      refine ev_pos (by rw [← gi_wg, ← gi_wg, h1]) ?_
      rw [hb, if_neg (by decide)] at h
      exact h
    · refine ev_neg (fun h2 => h1 (gi_inj (by rw [gi_wg, gi_wg, h2]))) (ev_pos (by rw [bls_len]; omega) ?_)
      rw [bls_get s.size B i (by omega)]
      by_cases h2 : B i = true
      · have hb : unB s t B i = false := by simp [unB, h2]
        refine ev_pos h2 ?_
        rw [hb, if_neg (by decide)] at h
        exact h
      · have hb : unB s t B i = true := by simp [unB, h1, h2]
        refine ev_neg h2 (ev_pos (by have := fil_le i (unB s t B); omega) ?_)
        rw [hb, if_pos rfl] at h
        exact h
theorem unlike_ev (s t : ByteArray) (hst : s.size = t.size) (hs : s.size ≤ 255) (B : Nat → Bool) : Ev (fun k => mend_unlike.f k s t (bls s.size B)) (fil s.size (unB s t B)) := unlike_loop s t hst hs B s.size 0 (by omega)
theorem within_ev (s t : ByteArray) (hst : s.size = t.size) (hs : s.size ≤ 255) (B : Nat → Bool) (r f : Nat) (hf : f ≤ 9223372036854775000) : Ev (fun k => mend_within.f k s t (r : Int) (bls s.size B) (f : Int)) (decide (2 * cnt s.size (unB s t B) + f ≤ r)) := by
  refine Ev.bind (unlike_ev s t hst hs B) (ev_to (Ev.now _) ?_)
  have h1 := fil_le s.size (unB s t B)
  rw [← fil_len]
  have e1 : wrap64 (2 * ((fil s.size (unB s t B)).length : Int)) = 2 * ((fil s.size (unB s t B)).length : Int) := by unfold wrap64; omega
  have e2 : wrap64 (2 * ((fil s.size (unB s t B)).length : Int) + (f : Int)) = 2 * ((fil s.size (unB s t B)).length : Int) + (f : Int) := by unfold wrap64; omega
  rw [e1, e2]
  exact decide_eq_decide.2 (by omega)
theorem rising_loop (n : Nat) (hn : n ≤ 255) (B : Nat → Bool) (d : Nat) : ∀ i, n = i + d → Ev (fun k => mend_rising.l0 k (fil i B) (bls n B) (n : Int) (i : Int)) (fil n B) := by
  induction d with
  | zero =>
    intro i hi
    refine Ev.step (fun k => rfl) (ev_neg (by omega) ?_)
    rw [show n = i from by omega]
    exact Ev.now _
  | succ d ih =>
    intro i hi
    have h := ih (i + 1) (by omega)
    rw [fil_succ] at h
    refine Ev.step (fun k => rfl) (ev_pos (by omega) (ev_pos (by omega) (ev_pos (by rw [bls_len]; omega) ?_)))
    rw [show (i : Int) + 1 = ((i + 1 : Nat) : Int) from by omega, wrap_nat (by omega), bls_get n B i (by omega)]
    by_cases h2 : B i = true
    · refine ev_pos h2 (ev_pos (by have := fil_le i B; omega) ?_)
      rw [if_pos h2] at h
      exact h
    · refine ev_neg h2 ?_
      rw [if_neg h2] at h
      exact h
theorem rising_ev (n : Nat) (hn : n ≤ 255) (B : Nat → Bool) : Ev (fun k => mend_rising.f k (bls n B)) (fil n B) := by
  unfold mend_rising.f
  rw [bls_len]
  exact rising_loop n hn B n 0 (by omega)

/-- one more factor -/
def stp (P : Nat → G) (x : G) (k : Nat) : G := if 0 < k then P k + P (k - 1) * x else P k
/-- the polynomial of some places -/
def lam (n : Nat) (l : List Int) : Nat → G := l.foldl (fun P p => stp P (xat n p.toNat)) (fun k => if k = 0 then g1 else g0)
theorem lam_more (n : Nat) (l : List Int) (p : Int) : lam n (l ++ [p]) = stp (lam n l) (xat n p.toNat) := by
  unfold lam; rw [List.foldl_append]; rfl
theorem stp_deg {P : Nat → G} {x : G} {m : Nat} (h : ∀ k, m < k → P k = g0) (k : Nat) (hk : m + 1 < k) : stp P x k = g0 := by
  unfold stp
  rw [if_pos (by omega), h k (by omega), h (k - 1) (by omega), zero_mul, add_zero]
theorem stp_zero (P : Nat → G) (x : G) : stp P x 0 = P 0 := if_neg (by omega)
theorem stp_ev (P : Nat → G) (x y : G) (N : Nat) : evf (stp P x) (N + 1) y = evf P (N + 1) y + x * y * evf P N y := by
  unfold evf
  rw [sm_shift, sm_shift (f := fun k => P k * pw y k), stp_zero]
  have : sm N (fun i => stp P x (i + 1) * pw y (i + 1)) = sm N (fun i => P (i + 1) * pw y (i + 1)) + x * y * sm N (fun k => P k * pw y k) := by
    rw [← sm_mul, ← sm_add]
    apply sm_congr
    intro i _
    unfold stp
    rw [if_pos (by omega), Nat.add_sub_cancel]
    show (P (i + 1) + P i * x) * (pw y i * y) = P (i + 1) * (pw y i * y) + x * y * (P i * pw y i)
    rw [add_mul]
    congr 1
    ac_rfl
  rw [this, add_assoc]
end Go.Proofs.Ytdgeapgfpikcmaa.Hand

/-
  The polynomial of the lost places, as the program makes it; a word's bytes; what mend.mend gives.
-/
namespace Go.Proofs.Ytdgeapgfpikcmaa.Hand
open Go.RowKit Gf Go.Proofs.Ytdgeapgfpikcmaa.Q Go.Proofs.YtdgeapgfpikcmaaV.PrintWords Go.Proofs.YtdgeapgfpikcmaaV.PrintLast Go.Proofs.YtdgeapgfpikcmaaV.PrintMore

theorem lam_zero (n : Nat) (l : List Int) : lam n l 0 = g1 := by
  have h : ∀ (l : List Int) (P : Nat → G), (l.foldl (fun P p => stp P (xat n p.toNat)) P) 0 = P 0 := by
    intro l
    induction l with
    | nil => intro P; rfl
    | cons p l ih => intro P; rw [List.foldl_cons, ih, stp_zero]
  unfold lam; rw [h]; rfl
theorem lam_deg (n : Nat) (l : List Int) : ∀ i, i ≤ l.length → ∀ k, i < k → lam n (l.take i) k = g0 := by
  intro i
  induction i with
  | zero => intro _ k hk; rw [List.take_zero]; exact if_neg (by omega)
  | succ i ih =>
    intro hi k hk
    rw [take_more l i (by omega), lam_more]
    exact stp_deg (ih (by omega)) k (by omega)
theorem lam_deg' (n : Nat) (l : List Int) (k : Nat) (hk : l.length < k) : lam n l k = g0 := by
  have := lam_deg n l l.length (Nat.le_refl _) k hk
  rwa [List.take_length] at this
/-- at a lost place's inverse: nought -/
theorem lam_root (n : Nat) (l : List Int) : ∀ i, i ≤ l.length → ∀ p : Nat, ((p : Int) ∈ l.take i) → ∀ N, i < N → evf (lam n (l.take i)) N (yat n p) = g0 := by
  intro i
  induction i with
  | zero => intro _ p hp; simp at hp
  | succ i ih =>
    intro hi p hp N hN
    have hd := lam_deg n l i (by omega)
    obtain ⟨N, rfl⟩ : ∃ M, N = M + 1 := ⟨N - 1, by omega⟩
    rw [take_more l i (by omega)] at hp ⊢
    rw [lam_more, stp_ev, evf_more (m := N + 1) (d := N) _ (by omega) (fun k hk => hd k (by omega))]
    rcases List.mem_append.1 hp with hp | hp
    · rw [ih (by omega) p hp N (by omega), mul_zero, add_zero]
    · rw [← List.mem_singleton.1 hp, show ((p : Int)).toNat = p from by omega, xy_at, one_mul, add_self]
theorem lam_lost (n : Nat) (l : List Int) (p : Nat) (hp : lostB l p = true) (N : Nat) (hN : l.length < N) : evf (lam n l) N (yat n p) = g0 := by
  have := lam_root n l l.length (Nat.le_refl _) p (by rw [List.take_length]; exact of_decide_eq_true hp) N hN
  rwa [List.take_length] at this

theorem loc_inner (n : Int) (x : G) (l : List Int) (b c : Int) (m : Nat) (hm : m ≤ 300) (P : Nat → G) (q : List Int)
    (h : Ev (fun k => mend_locator.l0 k n (gl m (stp P x)) l b (wrap64 (c + 1))) q) : ∀ t, t < m →
    Ev (fun k => mend_locator.l1 k n (gl m (fun k => if t < k then stp P x k else P k)) (gi x) (t : Int) l b c) q := by
  intro t
  induction t with
  | zero =>
    intro _
    refine Ev.step (fun k => rfl) (ev_neg (by omega) ?_)
    have e : gl m (fun k => if 0 < k then stp P x k else P k) = gl m (stp P x) := gl_congr fun k _ => by
      by_cases hk : 0 < k
      · rw [if_pos hk]
      · rw [if_neg hk, show k = 0 from by omega, stp_zero]
    rw [e]
    exact h
  | succ t ih =>
    intro ht
    have e1 : wrap64 (((t + 1 : Nat) : Int) - 1) = (t : Int) := by unfold wrap64; omega
    refine Ev.step (fun k => rfl) (ev_pos (by omega) (ev_pos (by omega) (ev_pos (by rw [gl_len]; omega) (ev_pos (by rw [e1]; omega) (ev_pos (by rw [e1, gl_len]; omega) ?_)))))
    rw [e1, gl_get m _ t (by omega), gl_get m _ (t + 1) ht, show (((t + 1 : Nat) : Int)).toNat = t + 1 from by omega]
    refine Ev.bind (times_ev _ _) ?_
    rw [bits_xor, gl_set]
    have e : gl m (fun k => if k = t + 1 then (if t + 1 < t + 1 then stp P x (t + 1) else P (t + 1)) + (if t + 1 < t then stp P x t else P t) * x else (if t + 1 < k then stp P x k else P k)) = gl m (fun k => if t < k then stp P x k else P k) := gl_congr fun k _ => by
      by_cases hk : k = t + 1
      · rw [if_pos hk, if_neg (by omega), if_neg (by omega), if_pos (by omega), hk]
        unfold stp
        rw [if_pos (by omega)]
        rfl
      · rw [if_neg hk]
        by_cases h2 : t + 1 < k
        · rw [if_pos h2, if_pos (by omega)]
        · rw [if_neg h2, if_neg (by omega)]
    rw [e]
    exact ih (by omega)
theorem loc_loop (n : Nat) (hn : n ≤ 255) (l : List Int) (hg : GoodL n l) (hl : l.length ≤ 255) (d : Nat) : ∀ i, l.length = i + d →
    Ev (fun k => mend_locator.l0 k (n : Int) (gl (i + 1) (lam n (l.take i))) l (l.length : Int) (i : Int)) (gl (l.length + 1) (lam n l)) := by
  induction d with
  | zero =>
    intro i hi
    refine Ev.step (fun k => rfl) (ev_neg (by omega) ?_)
    rw [show i = l.length from by omega, List.take_length]
    exact Ev.now _
  | succ d ih =>
    intro i hi
    have hil : i < l.length := by omega
    have hm := hg.1 _ (rd_mem l i hil)
    obtain ⟨p, hp⟩ : ∃ p : Nat, rd l (i : Int) = (p : Int) := ⟨(rd l (i : Int)).toNat, by omega⟩
    refine Ev.step (fun k => rfl) (ev_pos (by omega) (ev_pos (by omega) (ev_pos (by omega) ?_)))
    rw [hp]
    refine Ev.bind (unit_ev n p (by omega) (by omega)) (ev_pos (by rw [gl_len]; omega) (ev_some ?_))
    have e0 : (0 : Int) = gi g0 := rfl
    rw [e0, gl_app, gl_len, show wrap64 (((i + 1 + 1 : Nat) : Int) - 1) = ((i + 1 : Nat) : Int) from by unfold wrap64; omega]
    have hd := lam_deg n l i (by omega)
    have e1 : gl (i + 1 + 1) (fun k => if k = i + 1 then g0 else lam n (l.take i) k) = gl (i + 1 + 1) (fun k => if i + 1 < k then stp (lam n (l.take i)) (xat n p) k else lam n (l.take i) k) := gl_congr fun k hk => by
      by_cases h : k = i + 1
      · rw [if_pos h, if_neg (by omega), h, hd (i + 1) (by omega)]
      · rw [if_neg h, if_neg (by omega)]
    rw [e1]
    refine loc_inner (n : Int) (xat n p) l _ _ (i + 1 + 1) (by omega) _ _ ?_ (i + 1) (by omega)
    have h := ih (i + 1) (by omega)
    rw [take_more l i hil, lam_more, hp, show ((p : Int)).toNat = p from by omega] at h
    rw [show (i : Int) + 1 = ((i + 1 : Nat) : Int) from by omega, wrap_nat (by omega)]
    exact h
theorem loc_ev (n : Nat) (hn : n ≤ 255) (l : List Int) (hg : GoodL n l) (hl : l.length ≤ 255) : Ev (fun k => mend_locator.f k l (n : Int)) (gl (l.length + 1) (lam n l)) := by
  have e1 : wrap64 ((l.length : Int) + 1) = (l.length : Int) + 1 := by unfold wrap64; omega
  unfold mend_locator.f
  rw [e1]
  refine ev_pos (by omega) (ev_pos (by omega) (ev_some (ev_pos (by simp) ?_)))
  have h := loc_loop n hn l hg hl l.length 0 (by omega)
  exact h

/-- bytes out of field numbers -/
theorem str_size (n : Nat) (P : Nat → G) : (strOfNums (gl n P)).size = n := by
  have : (strOfNums (gl n P)).size = (gl n P).length := by
    unfold strOfNums
    show (List.toArray _).size = _
    simp
  rw [this, gl_len]
theorem str_wg (n : Nat) (P : Nat → G) (p : Nat) (hp : p < n) : wg (strOfNums (gl n P)) p = P p := by
  unfold wg bt
  have hs := str_size n P
  rw [dif_pos (by rw [hs]; omega)]
  have : ((strOfNums (gl n P))[((p : Int)).toNat]'(by rw [hs]; omega)) = UInt8.ofNat (P p).n := by
    have e : ((p : Int)).toNat = p := by omega
    simp only [e]
    show ((List.map _ (gl n P)).toArray)[p]'_ = _
    simp [gl, gi]
  rw [this]
  apply G.ext
  unfold ig
  have := (P p).lt
  simp
  omega
theorem bytes_ext {s t : ByteArray} (hs : s.size = t.size) (h : ∀ p, p < s.size → wg s p = wg t p) : s = t := by
  refine ByteArray.ext (Array.ext hs fun p h1 h2 => ?_)
  have h3 := h p h1
  have h4 : gi (wg s p) = gi (wg t p) := by rw [h3]
  rw [gi_wg, gi_wg] at h4
  have q1 := bt_at s (p : Int) (by simpa using h1)
  have q2 := bt_at t (p : Int) (by simpa using h2)
  rw [← q1, ← q2] at h4
  have e : ((p : Int)).toNat = p := by omega
  simp only [e] at h4
  have h5 : (s[p]'h1).toNat = (t[p]'h2).toNat := by omega
  exact UInt8.toNat_inj.1 h5
end Go.Proofs.Ytdgeapgfpikcmaa.Hand

/-
  What mend.mend gives: the codeword within reach, if there is one; what it gives is one.
-/
namespace Go.Proofs.Ytdgeapgfpikcmaa.Hand
open Go.RowKit Gf Go.Proofs.Ytdgeapgfpikcmaa.Q Go.Proofs.YtdgeapgfpikcmaaV.PrintWords Go.Proofs.YtdgeapgfpikcmaaV.PrintLast Go.Proofs.YtdgeapgfpikcmaaV.PrintMore

theorem kstep_congr {S S' : Nat → G} {f n : Nat} (h : ∀ j, j ≤ n → S j = S' j) (t : St) : kstep S f n t = kstep S' f n t := by
  have e : conv t.A S n = conv t.A S' n := by
    unfold conv
    apply sm_congr
    intro k _
    rw [h (n - k) (by omega)]
  unfold kstep
  rw [e]
theorem krun_congr {S S' : Nat → G} {f : Nat} (A0 : Nat → G) {r : Nat} (h : ∀ j, j < r → S j = S' j) : ∀ m, f + m ≤ r → krun S f A0 m = krun S' f A0 m := by
  intro m
  induction m with
  | zero => intro _; rfl
  | succ m ih =>
    intro hm
    show kstep S f (f + m) (krun S f A0 m) = kstep S' f (f + m) (krun S' f A0 m)
    rw [ih (by omega)]
    exact kstep_congr (fun j hj => h j (by omega)) _
/-- every second term, and the odd ones -/
theorem slo_odd (A : Nat → G) (l : Nat) (y : G) : evf (slo A l) (l + 1) y * y = odd A (l + 1) y := by
  unfold evf odd
  rw [← sm_mul', sm_shift (f := fun k => if k % 2 = 1 then A k * pw y k else g0)]
  have e1 : slo A l l = g0 := by unfold slo; rw [if_neg (by omega)]
  show sm l _ + slo A l l * pw y l * y = g0 + _
  rw [e1, zero_mul, zero_mul, add_zero, zero_add]
  apply sm_congr
  intro k hk
  unfold slo
  by_cases h : k % 2 = 0
  · rw [if_pos (by omega), if_pos (by omega), mul_assoc]; rfl
  · rw [if_neg (by omega), if_neg (by omega), zero_mul, zero_mul]
theorem cnt_lost (n : Nat) (l : List Int) (h : GoodL n l) : ∀ i, i ≤ l.length → cnt n (lostB (l.take i)) = i := by
  intro i
  induction i with
  | zero => intro _; exact (cnt_congr fun p _ => by simp [lostB]).trans (cnt_none n)
  | succ i ih =>
    intro hi
    have hd := good_dup (show i < l.length by omega) h
    have hm := h.1 _ (rd_mem l i (by omega))
    obtain ⟨p, hp⟩ : ∃ p : Nat, rd l (i : Int) = (p : Int) := ⟨(rd l (i : Int)).toNat, by omega⟩
    have h1 := cnt_but (n := n) (P := lostB (l.take (i + 1))) p (by omega) (by rw [take_more l i (by omega), hp]; simp [lostB])
    rw [← h1]
    congr 1
    refine (cnt_congr fun q _ => ?_).trans (ih (by omega))
    rw [take_more l i (by omega), hp]
    rw [hp] at hd
    unfold lostB
    by_cases hq : q = p
    · subst hq; simpa using hd
    · simp [hq]
      intro h1
      omega
theorem gam_of {n : Nat} {P : Nat → G} {j : Nat} (hj : j < n) : gam (gl n P) j = P j := by
  unfold gam
  rw [gl_len, if_pos hj, gl_get n P j hj, ig_gi]
theorem sy_add (s c : ByteArray) (r : Nat) (hs : c.size = s.size) (hc : Code r c) (j : Nat) (hj : j < r) : sy s j = syd s.size (fun p => wg s p + wg c p) (xat s.size) j := by
  have h := hc j hj
  unfold sy syd at h ⊢
  rw [hs] at h
  have e : sm s.size (fun i => (wg s i + wg c i) * pw (xat s.size i) j) = sm s.size (fun i => wg s i * pw (xat s.size i) j) + sm s.size (fun i => wg c i * pw (xat s.size i) j) := by
    rw [← sm_add]
    apply sm_congr
    intro i _
    rw [add_mul]
  rw [e, h, add_zero]
/-- within reach -/
def Near (r : Nat) (s c : ByteArray) (l : List Int) : Prop := 2 * cnt s.size (unB s c (lostB l)) + l.length ≤ r
/-- the run of the program's search -/
def theRun (s : ByteArray) (r : Nat) (l : List Int) : St := krun (gam (gl r (sy s))) l.length (lam s.size l) (r - l.length)
theorem mend_to (s : ByteArray) (r : Nat) (h : Fit s.size r) (l : List Int) (hg : GoodL s.size l) (hl : l.length ≤ r) (m : List Bool) (q : ByteArray × Bool)
    (hq : Ev (fun k => mendOut k s r m l.length (theRun s r l).A (ovk (theRun s r l).A (gam (gl r (sy s))) r 0) (slo (theRun s r l).A (theRun s r l).l) (theRun s r l).l) q) :
    Ev (fun k => mend_mend.f k s (r : Int) m l) q := by
  have h1 := h.r2
  have h2 := h.r64
  have h3 := h.rn
  have h4 := h.n255
  have e : ((r : Int)).toNat = r := by omega
  have eg : gam (gl (l.length + 1) (lam s.size l)) = lam s.size l := funext fun j => gam_gl (fun k hk => lam_deg' s.size l k (by omega)) j
  refine Ev.bind (syn_ev s r h) (Ev.bind (loc_ev s.size h.n255 l hg (by omega)) (ev_pos ?_ ?_))
  · refine ⟨by omega, by omega, by omega, by omega, by omega, rfl, ?_, ?_, ?_⟩
    · show gl r (sy s) = gl ((r : Int)).toNat (gam (gl r (sy s)))
      rw [e]
      exact gl_congr fun j hj => (gam_of hj).symm
    · rw [eg]
    · rw [eg]; exact lam_zero _ _
  · have er : mendRun (gl r (sy s)) (gl (l.length + 1) (lam s.size l)) l.length ((r : Int)).toNat = theRun s r l := by
      unfold mendRun theRun
      rw [eg, e]
    show Ev (fun k => mendOut k s ((r : Int)).toNat m l.length (mendRun (gl r (sy s)) (gl (l.length + 1) (lam s.size l)) l.length ((r : Int)).toNat).A _ _ _) q
    rw [er]
    show Ev (fun k => mendOut k s ((r : Int)).toNat m l.length (theRun s r l).A (ovk (theRun s r l).A (gam (gl r (sy s))) ((r : Int)).toNat 0) (slo (theRun s r l).A (theRun s r l).l) (theRun s r l).l) q
    rw [e]
    exact hq
theorem xat_inj {n : Nat} (hn : n ≤ 255) (i j : Nat) (hi : i < n) (hj : j < n) (h : xat n i = xat n j) : i = j := by
  have := px_inj (i := n - 1 - i) (j := n - 1 - j) (by omega) (by omega) h
  omega
/-- a codeword within reach is told -/
theorem mend_found (s : ByteArray) (r : Nat) (h : Fit s.size r) (l : List Int) (hg : GoodL s.size l) (c : ByteArray) (hc : c.size = s.size) (hw : Code r c) (hn : Near r s c l) :
    Ev (fun k => mend_mend.f k s (r : Int) (bls s.size (lostB l)) l) (c, true) := by
  have hlr : l.length ≤ r := by unfold Near at hn; omega
  let e : Nat → G := fun p => wg s p + wg c p
  let n := s.size
  have hS : ∀ j, j < r → gam (gl r (sy s)) j = syd n e (xat n) j := fun j hj => by rw [gam_of hj]; exact sy_add s c r hc hw j hj
  have he : ∀ p, e p = g0 ↔ wg s p = wg c p := fun p => add_eq
  have hset : Gf.Set n r l.length (cnt n (fun i => decide (e i ≠ g0) && !lostB l i)) (xat n) (yat n) e (lostB l) := by
    refine ⟨fun i _ => xy_at n i, fun i j hi hj h2 => xat_inj h.n255 i j hi hj h2, ?_, rfl, ?_⟩
    · have := cnt_lost n l hg l.length (Nat.le_refl _)
      rwa [List.take_length] at this
    · have e1 : cnt n (fun i => decide (e i ≠ g0) && !lostB l i) = cnt s.size (unB s c (lostB l)) := cnt_congr fun p _ => by
        unfold unB
        rw [decide_eq_decide.2 (not_congr (he p))]
      rw [e1]; exact hn
  have hgood := krun_good hset (lam n l) (lam_zero n l) (fun k hk => lam_deg' n l k hk) (N := r + 2) (by omega) (fun i _ hi => lam_lost n l i hi _ (by omega)) (r - l.length) (by omega)
  rw [← krun_congr (lam n l) hS (r - l.length) (by omega), show l.length + (r - l.length) = r from by omega] at hgood
  obtain ⟨hd, hroot, hval⟩ := hgood.found hset h.even (by omega)
  refine mend_to s r h l hg hlr _ _ ?_
  change Ev (fun k => mendOut k s r (bls n (lostB l)) l.length (theRun s r l).A (ovk (theRun s r l).A (gam (gl r (sy s))) r 0) (slo (theRun s r l).A (theRun s r l).l) (theRun s r l).l) (c, true)
  have hd' : (theRun s r l).l ≤ r := hd
  have hroot' : ∀ i, i < n → (evf (theRun s r l).A ((theRun s r l).l + 1) (yat n i) = g0 ↔ (lostB l i = true ∨ e i ≠ g0)) := hroot
  have hval' : ∀ i, i < n → evf (theRun s r l).A ((theRun s r l).l + 1) (yat n i) = g0 → odd (theRun s r l).A ((theRun s r l).l + 1) (yat n i) ≠ g0 ∧ sm r (fun j => conv (theRun s r l).A (syd n e (xat n)) j * pw (yat n i) j) = e i * odd (theRun s r l).A ((theRun s r l).l + 1) (yat n i) := hval
  clear hd hroot hval hgood
  generalize theRun s r l = t at hd' hroot' hval' ⊢
  have hov : ∀ y, evf (ovk t.A (gam (gl r (sy s))) r 0) r y = sm r (fun j => conv t.A (syd n e (xat n)) j * pw y j) := fun y => by
    unfold evf
    apply sm_congr
    intro j hj
    unfold ovk
    rw [if_pos hj]
    congr 1
    unfold conv
    apply sm_congr
    intro k hk
    rw [hS _ (by omega)]
  have hsl : ∀ i, i < n → evf t.A (t.l + 1) (yat n i) = g0 → evf (slo t.A t.l) (t.l + 1) (yat n i) ≠ g0 := fun i hi h0 hz => by
    refine (hval' i hi h0).1 ?_
    rw [← slo_odd, hz, zero_mul]
  have hcode : mendCode s r t.A (ovk t.A (gam (gl r (sy s))) r 0) (slo t.A t.l) t.l = c := by
    have hz : (mendCode s r t.A (ovk t.A (gam (gl r (sy s))) r 0) (slo t.A t.l) t.l).size = s.size := str_size _ _
    refine bytes_ext (by rw [hz, hc]) fun p hp => ?_
    rw [hz] at hp
    unfold mendCode
    rw [str_wg _ _ p hp]
    unfold fixK fixB
    rw [if_pos hp]
    by_cases h0 : evf t.A (t.l + 1) (yat n p) = g0
    · have h0' : evf t.A (t.l + 1) (yat s.size p) = g0 := h0
      rw [if_pos h0', hov, (hval' p hp h0).2]
      have h1 := slo_odd t.A t.l (yat n p)
      have h2 : xat n p * (e p * odd t.A (t.l + 1) (yat n p)) = e p * evf (slo t.A t.l) (t.l + 1) (yat n p) := by
        rw [← h1]
        have : xat n p * (e p * (evf (slo t.A t.l) (t.l + 1) (yat n p) * yat n p)) = e p * evf (slo t.A t.l) (t.l + 1) (yat n p) * (xat n p * yat n p) := by ac_rfl
        rw [this, xy_at, mul_one]
      have h3 : xat s.size p * (e p * odd t.A (t.l + 1) (yat s.size p)) * Gf.inv (evf (slo t.A t.l) (t.l + 1) (yat s.size p)) = e p := by
        refine (congrArg (· * Gf.inv (evf (slo t.A t.l) (t.l + 1) (yat n p))) h2).trans ?_
        show e p * evf (slo t.A t.l) (t.l + 1) (yat n p) * Gf.inv (evf (slo t.A t.l) (t.l + 1) (yat n p)) = e p
        rw [mul_assoc, inv_mul (hsl p hp h0), mul_one]
      refine (congrArg (wg s p + ·) h3).trans ?_
      show wg s p + (wg s p + wg c p) = wg c p
      rw [← add_assoc, add_self, zero_add]
    · have h0' : ¬ evf t.A (t.l + 1) (yat s.size p) = g0 := h0
      rw [if_neg h0']
      have h2 : ¬ e p ≠ g0 := fun h3 => h0 ((hroot' p hp).2 (.inr h3))
      exact (he p).1 (Decidable.not_not.1 h2)
  have hnf : ¬ (List.range s.size).any (fun p => decide (failB s.size t.A (slo t.A t.l) t.l p)) = true := by
    intro hh
    obtain ⟨p, hp, hq⟩ := List.any_eq_true.1 hh
    have := of_decide_eq_true hq
    exact hsl p (List.mem_range.1 hp) this.1 this.2
  have e1 := whole_ev c r (by rw [hc]; exact h)
  rw [decide_eq_true hw] at e1
  have e2 := within_ev s c hc.symm h.n255 (lostB l) r l.length (by have := h.r64; omega)
  rw [decide_eq_true (p := 2 * cnt s.size (unB s c (lostB l)) + l.length ≤ r) hn] at e2
  unfold mendOut
  rw [hcode]
  exact ev_neg hnf (Ev.bind e1 (ev_pos rfl (Ev.bind e2 (ev_pos rfl (Ev.now _)))))
end Go.Proofs.Ytdgeapgfpikcmaa.Hand
