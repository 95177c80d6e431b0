/-
  The codeword within reach is sought: the walk of mend.mend.
-/
import Derived.Test.YtdgeapgfpikcmaaK0
import Derived.Test.YtdgeapgfpikcmaaQx3
namespace Go.Proofs.Ytdgeapgfpikcmaa.Hand
open Go.RowKit Gf Go.Proofs.Ytdgeapgfpikcmaa.Q Go.Proofs.YtdgeapgfpikcmaaV.PrintWords Go.Proofs.YtdgeapgfpikcmaaV.PrintLast Go.Proofs.YtdgeapgfpikcmaaV.PrintMore

/-- field numbers as the program's bytes -/
def gl (n : Nat) (P : Nat → G) : List Int := (List.range n).map fun j => gi (P j)
theorem gl_len (n : Nat) (P : Nat → G) : (gl n P).length = n := by simp [gl]
theorem gl_get (n : Nat) (P : Nat → G) (j : Nat) (hj : j < n) : rd (gl n P) (j : Int) = gi (P j) := by
  simp [gl, rd, List.getD_eq_getElem?_getD, hj]
/-- a row of such bytes, as cells -/
theorem row_cells {w : World} {base : Nat} {ok : Nat → Prop} {v : Value} {n : Nat} {P : Nat → G} (h : Kd.R (Kd.int .u8) 5 w base ok v (gl n P)) (hn : 0 < n) :
    ∃ g c, v = .slice (some ⟨g, 0, none⟩) n c ∧ base ≤ g ∧ g < w.heap.size ∧ ∀ j, j < n → w.cell? ⟨g, j, none⟩ = some (.int .u8 (gi (P j))) := by
  obtain ⟨g, c, he, hb, hl, _⟩ := Kd.R_form h (by rw [gl_len]; exact hn)
  rw [gl_len] at he
  subst he
  refine ⟨g, c, rfl, hb, hl, fun j hj => ?_⟩
  have h2 := (Kd.R_celln (enc := Value.int .u8) 0 h (j : Int) (by omega) (by omega)).1
  have e : rdOf (0 : Int) (gl n P) (j : Int) = gi (P j) := gl_get n P j hj
  rw [e] at h2
  exact h2

/-- a string's bytes, as field numbers -/
def wg (s : ByteArray) (p : Nat) : G := ig (bt s (p : Int))
theorem gi_wg (s : ByteArray) (p : Nat) : gi (wg s p) = bt s (p : Int) := by
  have h := bt_range s (p : Int)
  exact gi_ig h.1 (by omega)
theorem numsOf_gl (s : ByteArray) : numsOf s = gl s.size (wg s) := by
  refine List.ext_getElem (by rw [numsOf_length, gl_len]) fun j h1 h2 => ?_
  rw [numsOf_length] at h1
  have e : (gl s.size (wg s))[j]'h2 = bt s (j : Int) := by simp [gl, gi_wg]
  rw [e]
  have := bt_at s (j : Int) (by simpa using h1)
  simp [numsOf] at this ⊢
  exact this
/-- the row that is being mended -/
def RowB (w : World) (g c n : Nat) (B : Nat → G) : Prop := ∃ base, Kd.R (Kd.int .u8) 5 w base (fun _ => True) (.slice (some ⟨g, 0, none⟩) n c) (gl n B)
theorem row_made {w : World} {base : Nat} {v : Value} {s : ByteArray} (h : Kd.R (Kd.int .u8) 5 w base (fun _ => True) v (numsOf s)) (hn : 0 < s.size) :
    ∃ g c, v = .slice (some ⟨g, 0, none⟩) s.size c ∧ base ≤ g ∧ g < w.heap.size ∧ RowB w g c s.size (wg s) := by
  rw [numsOf_gl] at h
  obtain ⟨g, c, he, hb, hl, _⟩ := Kd.R_form h (by rw [gl_len]; exact hn)
  rw [gl_len] at he
  subst he
  exact ⟨g, c, rfl, hb, hl, _, h⟩
theorem RowB.cell {w : World} {g c n : Nat} {B : Nat → G} (h : RowB w g c n B) (j : Nat) (hj : j < n) : w.cell? ⟨g, j, none⟩ = some (.int .u8 (gi (B j))) := by
  obtain ⟨base, h⟩ := h
  have h2 := (Kd.R_celln (enc := Value.int .u8) 0 h (j : Int) (by omega) (by omega)).1
  have e : rdOf (0 : Int) (gl n B) (j : Int) = gi (B j) := gl_get n B j hj
  rw [e] at h2
  exact h2
theorem RowB.free {w : World} {g c n : Nat} {B : Nat → G} (h : RowB w g c n B) (j : Nat) (hj : j < n) : w.frozen? ⟨g, j, none⟩ = false := by
  obtain ⟨base, h⟩ := h
  exact (Kd.R_celln (enc := Value.int .u8) 0 h (j : Int) (by omega) (by omega)).2
theorem RowB.drewN {w : World} {g c n : Nat} {B : Nat → G} (h : RowB w g c n B) (m : Nat) : RowB (w.drewN m) g c n B := by
  obtain ⟨base, h⟩ := h
  exact ⟨base, Kd.R_drewN h m⟩
theorem RowB.congr {w : World} {g c n : Nat} {B B' : Nat → G} (h : RowB w g c n B) (he : ∀ j, j < n → B j = B' j) : RowB w g c n B' := by
  have : gl n B = gl n B' := List.map_congr_left fun j hj => by rw [he j (List.mem_range.1 hj)]
  unfold RowB at *
  rw [← this]; exact h
theorem RowB.set {w : World} {g c n : Nat} {B : Nat → G} (h : RowB w g c n B) (j : Nat) (x : G) : RowB (w.setCell ⟨g, j, none⟩ (gv x)) g c n (fun k => if k = j then x else B k) := by
  obtain ⟨base, h⟩ := h
  have h2 := Kd.R_putn (enc := Value.int .u8) h (j : Int) (gi x)
  have e : (gl n B).set j (gi x) = gl n (fun k => if k = j then x else B k) := by
    refine List.ext_getElem (by simp [gl]) fun k h1 h3 => ?_
    by_cases hk : j = k
    · subst hk; simp [gl]
    · simp [gl, List.getElem_set_ne hk, Ne.symm hk]
  refine ⟨base, ?_⟩
  rw [← e]
  exact h2

/-- the position's number, and its inverse -/
abbrev xat (n p : Nat) : G := px (n - 1 - p)
abbrev yat (n p : Nat) : G := Gf.inv (xat n p)
theorem xy_at (n p : Nat) : xat n p * yat n p = g1 := inv_mul (px_ne _)
/-- every second term -/
def slo (A : Nat → G) (l j : Nat) : G := if j % 2 = 0 ∧ j + 1 ≤ l then A (j + 1) else g0
/-- what stands at a place then -/
def fixB (n r : Nat) (A ov sl : Nat → G) (l p : Nat) (w : G) : G :=
  if evf A (l + 1) (yat n p) = g0 then w + xat n p * evf ov r (yat n p) * Gf.inv (evf sl (l + 1) (yat n p)) else w
def failB (n : Nat) (A sl : Nat → G) (l p : Nat) : Prop := evf A (l + 1) (yat n p) = g0 ∧ evf sl (l + 1) (yat n p) = g0
instance (n : Nat) (A sl : Nat → G) (l p : Nat) : Decidable (failB n A sl l p) := by unfold failB; infer_instance

/-- what stands there while the places are gone through -/
def fixK (a0 : ByteArray) (r : Nat) (A ov sl : Nat → G) (l i p : Nat) : G := if p < i then fixB a0.size r A ov sl l p (wg a0 p) else wg a0 p
/-- the word when all places have been gone through -/
def mendCode (a0 : ByteArray) (r : Nat) (A ov sl : Nat → G) (l : Nat) : ByteArray := strOfNums (gl a0.size (fixK a0 r A ov sl l a0.size))
/-- what comes of it -/
def mendOut (K : Nat) (a0 : ByteArray) (r : Nat) (l2 : List Bool) (f : Nat) (A ov sl : Nat → G) (l : Nat) : Option (ByteArray × Bool) :=
  if (List.range a0.size).any (fun p => decide (failB a0.size A sl l p)) = true then some (⟨#[]⟩, false)
  else (reed_Whole.f K (mendCode a0 r A ov sl l) (r : Int)).bind fun wh => if wh.1 = true then (mend_within.f K a0 (mendCode a0 r A ov sl l) (r : Int) l2 (f : Int)).bind fun wi => if wi = true then some (mendCode a0 r A ov sl l, true) else some (⟨#[]⟩, false) else some (⟨#[]⟩, false)
theorem mendOut_fail {K : Nat} {a0 : ByteArray} {r : Nat} {l2 : List Bool} {f : Nat} {A ov sl : Nat → G} {l p : Nat} {q : ByteArray × Bool} (h : mendOut K a0 r l2 f A ov sl l = some q) (hp : p < a0.size) (hf : failB a0.size A sl l p) : q = (⟨#[]⟩, false) := by
  unfold mendOut at h
  rw [if_pos (List.any_eq_true.2 ⟨p, List.mem_range.2 hp, decide_eq_true hf⟩)] at h
  exact (Option.some.inj h).symm
theorem mendOut_ok {K : Nat} {a0 : ByteArray} {r : Nat} {l2 : List Bool} {f : Nat} {A ov sl : Nat → G} {l : Nat} {q : ByteArray × Bool} (h : mendOut K a0 r l2 f A ov sl l = some q) (hf : ∀ p, p < a0.size → ¬ failB a0.size A sl l p) :
    ((reed_Whole.f K (mendCode a0 r A ov sl l) (r : Int)).bind fun wh => if wh.1 = true then (mend_within.f K a0 (mendCode a0 r A ov sl l) (r : Int) l2 (f : Int)).bind fun wi => if wi = true then some (mendCode a0 r A ov sl l, true) else some (⟨#[]⟩, false) else some (⟨#[]⟩, false)) = some q := by
  unfold mendOut at h
  rw [if_neg] at h
  · exact h
  · intro hh
    obtain ⟨p, hp, hq⟩ := List.any_eq_true.1 hh
    exact hf p (List.mem_range.1 hp) (of_decide_eq_true hq)
theorem fixK_zero (a0 : ByteArray) (r : Nat) (A ov sl : Nat → G) (l p : Nat) : wg a0 p = fixK a0 r A ov sl l 0 p := by
  unfold fixK; rw [if_neg (Nat.not_lt_zero _)]
theorem fixK_skip {a0 : ByteArray} {r : Nat} {A ov sl : Nat → G} {l i : Nat} (h : evf A (l + 1) (yat a0.size i) ≠ g0) (p : Nat) : fixK a0 r A ov sl l i p = fixK a0 r A ov sl l (i + 1) p := by
  unfold fixK
  by_cases h1 : p < i
  · rw [if_pos h1, if_pos (by omega)]
  · rw [if_neg h1]
    by_cases h2 : p = i
    · subst h2
      rw [if_pos (by omega)]
      unfold fixB
      rw [if_neg h]
    · rw [if_neg (by omega)]
theorem fixK_put {a0 : ByteArray} {r : Nat} {A ov sl : Nat → G} {l i : Nat} (h : evf A (l + 1) (yat a0.size i) = g0) (p : Nat) :
    (if p = i then fixK a0 r A ov sl l i i + xat a0.size i * evf ov r (yat a0.size i) * Gf.inv (evf sl (l + 1) (yat a0.size i)) else fixK a0 r A ov sl l i p) = fixK a0 r A ov sl l (i + 1) p := by
  unfold fixK
  by_cases h2 : p = i
  · subst h2
    rw [if_pos rfl, if_neg (Nat.lt_irrefl _), if_pos (by omega)]
    unfold fixB
    rw [if_pos h]
  · rw [if_neg h2]
    by_cases h1 : p < i
    · rw [if_pos h1, if_pos (by omega)]
    · rw [if_neg h1, if_neg (by omega)]
theorem over_one (x : G) (w : World) (h : x ≠ g0) : Calls Try.prog 53 #[.int .u8 1, .int .u8 (gi x)] w fun e w' => e = .returned (.tuple #[.int .u8 (gi (Gf.inv x)), .int .i64 0]) ∧ Drawn0 w w' := by
  have h1 := over_call g1 x w h
  rw [one_mul] at h1
  exact h1

/-- what the second half holds in memory: the syndromes, the search's polynomial; nothing that was there has turned -/
structure MendMem (w0 w : World) (gs g13 r : Nat) (S A : Nat → G) : Prop where
  below : Below w0.heap.size w0 w
  hs : ∀ j, j < r → w.cell? ⟨gs, j, none⟩ = some (.int .u8 (gi (S j)))
  ls : gs < g13
  h13 : Pol w g13 A
  n13 : w0.heap.size ≤ g13
theorem MendMem.other {w0 w w1 : World} {gs g13 r : Nat} {S A : Nat → G} (h : MendMem w0 w gs g13 r S A) {g : Nat} (hg : w.grownBy w1 (some g)) (hlt : g13 < g) : MendMem w0 w1 gs g13 r S A := by
  have q := Arr.lt h.h13
  have ls := h.ls
  refine ⟨h.below.grown hg h.below.size (fun k hk => by simp at hk; have := h.n13; omega), fun j hj => ?_, ls, Arr.grown h.h13 hg (by simp; omega), h.n13⟩
  rw [World.cell?_of_block (w := w) (a := ⟨gs, j, none⟩) (hg.block gs (by omega) (by simp; omega))]
  exact h.hs j hj
theorem MendMem.more {w0 w w1 : World} {gs g13 r : Nat} {S A : Nat → G} (h : MendMem w0 w gs g13 r S A) (hb : Below w.heap.size w w1) : MendMem w0 w1 gs g13 r S A := by
  have q := Arr.lt h.h13
  have ls := h.ls
  refine ⟨below_step h.below hb, fun j hj => ?_, ls, Arr.below h.h13 hb, h.n13⟩
  rw [hb.cell (p := ⟨gs, j, none⟩) (by show gs < w.heap.size; omega)]
  exact h.hs j hj
theorem MendMem.drewN {w0 w : World} {gs g13 r : Nat} {S A : Nat → G} (h : MendMem w0 w gs g13 r S A) (m : Nat) : MendMem w0 (w.drewN m) gs g13 r S A :=
  ⟨pw_below_drewN h.below m, h.hs, h.ls, h.h13, h.n13⟩
theorem mend_start {w w1 w2 w3 w4 w5 : World} {gs g13 r : Nat} {S A Z : Nat → G} (b1 : Below w.heap.size w w1) (l1 : gs < w1.heap.size) (q1 : ∀ j, j < r → w1.cell? ⟨gs, j, none⟩ = some (.int .u8 (gi (S j))))
    (b2 : Below w1.heap.size w1 w2) (b3 : Below w2.heap.size w2 w3) (e13 : g13 = w3.heap.size) (p13 : Pol w4 g13 Z) (b4 : Below w3.heap.size w3 w4) (p5 : Pol w5 g13 A) (g5 : w4.grownBy w5 (some g13)) : MendMem w w5 gs g13 r S A := by
  have z1 := b1.size
  have z2 := b2.size
  have z3 := b3.size
  have z4 := b4.size
  have zl := Arr.lt p13
  have hb : Below w1.heap.size w1 w4 := below_step (below_step b2 b3) b4
  have hb5 : Below w1.heap.size w1 w5 := hb.grown g5 (by omega) (fun k hk => by simp at hk; omega)
  refine ⟨below_step b1 hb5, fun j hj => ?_, by omega, p5, by omega⟩
  rw [hb5.cell (p := ⟨gs, j, none⟩) l1]
  exact q1 j hj

/-- the evaluator while it is made: place i has its first k terms -/
def ovk (A S : Nat → G) (i k j : Nat) : G := if j < i then conv A S j else if j = i then sm k (fun t => A t * S (i - t)) else g0
theorem ovk_zero (A S : Nat → G) (j : Nat) : g0 = ovk A S 0 0 j := by
  unfold ovk
  rw [if_neg (by omega)]
  split <;> rfl
theorem ovk_next (A S : Nat → G) (i k j : Nat) : (if j = i then ovk A S i k i + A k * S (i - k) else ovk A S i k j) = ovk A S i (k + 1) j := by
  unfold ovk
  by_cases h : j = i
  · subst h
    rw [if_pos rfl, if_neg (Nat.lt_irrefl _), if_pos rfl, if_neg (Nat.lt_irrefl _), if_pos rfl]; rfl
  · rw [if_neg h]
    by_cases h2 : j < i
    · rw [if_pos h2, if_pos h2]
    · rw [if_neg h2, if_neg h2, if_neg h, if_neg h]
theorem ovk_done (A S : Nat → G) (l i k j : Nat) (hA : ∀ t, l < t → A t = g0) (hk : k = min l i + 1) : ovk A S i k j = ovk A S (i + 1) 0 j := by
  unfold ovk
  by_cases h : j < i
  · rw [if_pos h, if_pos (by omega)]
  · rw [if_neg h]
    by_cases h2 : j = i
    · rw [if_pos h2, if_pos (by omega), h2]
      unfold conv
      exact (sm_more _ (by omega) (fun t h1 h3 => by rw [hA t (by omega), zero_mul])).symm
    · rw [if_neg h2, if_neg (by omega)]
      split <;> rfl
/-- the derivative while it is made -/
def slk (A : Nat → G) (i j : Nat) : G := if j % 2 = 0 ∧ j < 2 * i then A (j + 1) else g0
theorem slk_zero (A : Nat → G) (j : Nat) : g0 = slk A 0 j := by
  unfold slk; rw [if_neg (by omega)]
theorem slk_next (A : Nat → G) (i j : Nat) : (if j = 2 * i then A (2 * i + 1) else slk A i j) = slk A (i + 1) j := by
  unfold slk
  by_cases h : j = 2 * i
  · rw [if_pos h, if_pos (by omega), h]
  · rw [if_neg h]
    by_cases h2 : j % 2 = 0 ∧ j < 2 * i
    · rw [if_pos h2, if_pos (by omega)]
    · rw [if_neg h2, if_neg (by omega)]
theorem slk_done (A : Nat → G) (l i j : Nat) (h : ¬ 2 * i + 1 ≤ l) (h2 : 2 * i ≤ l + 1) : slk A i j = slo A l j := by
  unfold slk slo
  by_cases h1 : j % 2 = 0 ∧ j < 2 * i
  · rw [if_pos h1, if_pos (by omega)]
  · rw [if_neg h1, if_neg (by omega)]
theorem key_call (S Γ A : Nat → G) (l r f gs cs gl cl : Nat) (w : World) (hA : A = (krun S f Γ (r - f)).A) (hL : l = (krun S f Γ (r - f)).l) (hr : r ≤ 64) (hf : f ≤ r)
    (hs : ∀ j, j < r → w.cell? ⟨gs, j, none⟩ = some (.int .u8 (gi (S j)))) (hl : ∀ j, j < f + 1 → w.cell? ⟨gl, j, none⟩ = some (.int .u8 (gi (Γ j)))) (hgs : gs < w.heap.size) (hgl : gl < w.heap.size) (hd : ∀ k, f < k → Γ k = g0) (h0 : Γ 0 = g1) :
    Calls Try.prog 50 #[.slice (some ⟨gs, 0, none⟩) r cs, .slice (some ⟨gl, 0, none⟩) (f + 1) cl] w fun e w' => e = .returned (.tuple #[.agg (arrC gv 66 A), .int .i64 (l : Int)]) ∧ Below w.heap.size w w' := by
  subst hA; subst hL
  exact key_walk S Γ r f gs cs gl cl w hr hf hs hl hgs hgl hd h0

set_option maxHeartbeats 4000000 in
set_option maxRecDepth 100000 in
theorem mend_walk (K n r f : Nat) (a0 : ByteArray) (S Γ : Nat → G) (A2 A3 : Option Addr) (c2 c3 : Nat) (l2 : List Bool) (l3 : List Int) (w : World)
    (hn : a0.size = n) (hn0 : 0 < n) (hn1 : n ≤ 255) (hr0 : 2 ≤ r) (hr : r ≤ 64) (hf : f ≤ r) (hl3 : l3.length = f)
    (hr2 : Kd.C Kd.bool w A2 l2.length l2) (hc2 : l2.length ≤ c2) (hr3 : Kd.C (Kd.int .i64) w A3 l3.length l3) (hc3 : l3.length ≤ c3)
    (hS : reed_Syndromes.f K a0 (r : Int) = some (gl r S, 0)) (hΓ : mend_locator.f K l3 (n : Int) = some (gl (f + 1) Γ)) (hd : ∀ k, f < k → Γ k = g0) (h0 : Γ 0 = g1) (A : Nat → G) (l : Nat) (hA : A = (krun S f Γ (r - f)).A) (hL : l = (krun S f Γ (r - f)).l) (r1 : ByteArray) (r2 : Bool) (hX : mendOut K a0 r l2 f A (ovk A S r 0) (slo A l) l = some (r1, r2)) :
    Calls Try.prog 27 #[.string a0, .int .i64 (r : Int), .slice A2 l2.length c2, .slice A3 l3.length c3] w fun e w' => e = .returned (.tuple #[.string r1, .bool r2]) ∧ Below w.heap.size w w' := by
  have Hn := Aside0.mk hn
  have Hl3 := Aside0.mk hl3
  have HR2 := Aside0.mk hr2
  have HC2 := Aside0.mk hc2
  have HR3 := Aside0.mk hr3
  have HC3 := Aside0.mk hc3
  have HS := Aside0.mk hS
  have HΓ := Aside0.mk hΓ
  have Hd := Aside0.mk hd
  have H0 := Aside0.mk h0
  have EA := Aside0.mk hA
  have HX := Aside0.mk hX
  clear hX
  have EL := Aside0.mk hL
  have HI := Aside0.mk (krun_inv S f Γ h0 hd (r - f))
  have hlr : l ≤ r := by rw [hL]; have := HI.out.ln; omega
  have HAz : Aside0 (∀ k, l < k → A k = g0) := ⟨by rw [hL, hA]; exact HI.out.ad⟩
  clear hl3 hr2 hc2 hr3 hc3 hS hΓ hd h0 hA hL
  subst hn
  clear Hn
  go_enter Try.func27, Try.ntmps27
  go_wp2_with (first
    | (go_at_call 34; (with_reducible refine (reed_Syndromes.calls K a0 (r : Int) _ _ _ HS.out).mono ?_); rintro e w1 ⟨v1, rfl, ho1, hb1⟩; obtain ⟨gs, cs, e1, b1, l1, q1⟩ := row_cells ho1 (by omega); subst e1; have B1 := Aside0.mk hb1; have N1 := Aside0.mk b1; have L1 := Aside0.mk l1; have Q1 := Aside0.mk q1; clear ho1 hb1 b1 l1 q1)
    | (go_at_call 47; (with_reducible refine (mend_locator.calls K A3 c3 l3 _ _ _ (Kd.C_below HR3.out B1.out) HC3.out HΓ.out).mono ?_); rintro e w2 ⟨v2, rfl, ho2, hb2⟩; obtain ⟨gl2, cl2, e2, b2, l2', q2⟩ := row_cells ho2 (by omega); subst e2; have B2 := Aside0.mk hb2; have N2 := Aside0.mk b2; have L2 := Aside0.mk l2'; have Q2 := Aside0.mk q2; clear ho2 hb2 b2 l2' q2)
    | (go_at_call 50; refine (key_call S Γ A l r f gs cs gl2 cl2 w2 EA.out EL.out hr hf (fun j hj => by rw [B2.out.cell (p := ⟨gs, j, none⟩) L1.out]; exact Q1.out j hj) Q2.out (by have := L1.out; have := B2.out.size; omega) L2.out Hd.out H0.out).mono ?_; rintro e w3 ⟨rfl, hb3⟩; have B3 := Aside0.mk hb3; clear hb3)
    | ((with_reducible refine gate_dst (N := 13) rfl ?_); refine arr_alloc (enc := gv) (n := 66) (T := 90) rfl Try.zeroCells90 (by first | (go_simp; done) | (go_simp; rfl)) zeros_pol ?_; intro g13 e13 w4 p13 b4 l13; have E13 := Aside0.mk e13; have P13 := Aside0.mk p13; have B4 := Aside0.mk b4; clear e13 p13 b4 l13)
    | ((with_reducible refine gate_store (t := 90) (p := 13) (v := .tmp 44) rfl ?_); refine arr_store (enc := gv) (n := 66) (g := g13) (T := 90) rfl (.tmp 13) (.tmp 44) rfl rfl rfl info90s gv_one P13.out ?_; intro w5 p5 g5 s5; have HM := Aside0.mk (mend_start B1.out L1.out Q1.out B2.out B3.out E13.out P13.out B4.out p5 g5); clear p5 g5 s5 B1 L1 Q1 B2 B3 E13 P13 B4)
    | ((with_reducible refine gate_dst (N := 15) rfl ?_); refine arr_alloc (enc := gv) (n := 66) (T := 90) rfl Try.zeroCells90 (by first | (go_simp; done) | (go_simp; rfl)) zeros_pol ?_; intro g15 e15 w6 p15 b6 l15; have P15 := Aside0.mk p15; have HM6 := Aside0.mk (HM.out.more b6); have L15 : Aside0 (g13 < g15) := ⟨by have := Arr.lt HM.out.h13; omega⟩; clear e15 p15 b6 l15))
  go_loopg [50] 70 (fun kq v50 w' => ∃ (i : Nat), i ≤ r ∧ v50 = .int .i64 (i : Int) ∧ Aside0 (MendMem w w' gs g13 r S A) ∧ Aside0 (Pol w' g15 (ovk A S i 0)) ∧ Aside0 (r - i < kq))
  case atStart => exact ⟨0, by omega, rfl, HM6, ⟨Arr.congr P15.out (fun j _ => ovk_zero A S j)⟩, ⟨by omega⟩⟩
  case round =>
    clear HM6 P15 HM
    obtain ⟨i, hi, rfl, HM, HP, HQ⟩ := hrel
    by_cases hlt : i < r
    · go_wp2
      obtain ⟨wo, rfl⟩ : ∃ wo : World, wo = wr := ⟨_, rfl⟩
      obtain ⟨q1, rfl⟩ : ∃ q1 : Nat, q1 = gk := ⟨_, rfl⟩
      go_loopg [17] 70 (fun kq v17 w' => ∃ (k : Nat), k ≤ l + 1 ∧ k ≤ i + 1 ∧ v17 = .int .i64 (k : Int) ∧ Aside0 (MendMem w w' gs g13 r S A) ∧ Aside0 (Pol w' g15 (ovk A S i k)) ∧ Aside0 (i + 1 - k < kq))
      case atStart => exact ⟨0, by omega, by omega, rfl, HM, HP, ⟨by omega⟩⟩
      case round =>
        clear HM HP
        obtain ⟨k, hk1, hk2, rfl, HM, HP, HK⟩ := hrel
        by_cases hkl : k ≤ l
        · by_cases hki : k ≤ i
          · have hc1' : wr.cell? ⟨g15, i, none⟩ = some (.int .u8 (gi (ovk A S i k i))) := Arr.cell HP.out i (by omega)
            have hc2' : wr.cell? ⟨g13, k, none⟩ = some (.int .u8 (gi (A k))) := Arr.cell HM.out.h13 k (by omega)
            have hc3' : wr.cell? ⟨gs, i - k, none⟩ = some (.int .u8 (gi (S (i - k)))) := HM.out.hs _ (by omega)
            have hc1 : ({ wr with drawn := wr.drawn + 1 } : World).cell? ⟨g15, i, none⟩ = some (.int .u8 (gi (ovk A S i k i))) := Arr.cell HP.out i (by omega)
            have hc2 : ({ wr with drawn := wr.drawn + 1 } : World).cell? ⟨g13, k, none⟩ = some (.int .u8 (gi (A k))) := Arr.cell HM.out.h13 k (by omega)
            have hc3 : ({ wr with drawn := wr.drawn + 1 } : World).cell? ⟨gs, i - k, none⟩ = some (.int .u8 (gi (S (i - k)))) := HM.out.hs _ (by omega)
            go_wp2
            have hs1 : IntKind.i64.wrap ((i : Int) - (k : Int)) = (i : Int) - (k : Int) := by rw [IntKind.wrap_i64]; omega
            have hs2 : (0 : Int) ≤ (i : Int) - (k : Int) := by omega
            have hs3 : ((i : Int) - (k : Int)).toNat = i - k := by omega
            have hs4 : (i : Int) - (k : Int) < (r : Int) := by omega
            have hs5 : (0 : Int) ≤ (k : Int) := by omega
            have hs6 : (k : Int) < 66 := by omega
            have hs7 : (0 : Int) ≤ (i : Int) := by omega
            have hs8 : (i : Int) < 66 := by omega
            refine wp_region_still_tail 15 (by kernel_rfl) (by kernel_rfl) ?_
            simp only [List.take_succ_cons, List.take_zero, List.drop_succ_cons, List.drop_zero]
            iterate 12 still_step
            still_call (times_same (A k) (S (i - k)) _)
            repeat still_step
            refine wpStill_nil ?_
            clear hc1 hc2 hc3 hc1' hc2' hc3'
            change wpList _ _ _ _ _ wr.drew
            have hc1 : wr.drew.cell? ⟨g15, i, none⟩ = some (.int .u8 (gi (ovk A S i k i))) := Arr.cell HP.out i (by omega)
            have hf1 : wr.drew.frozen? ⟨g15, i, none⟩ = false := Arr.free HP.out i (by omega)
            go_wp2
            rw [bits_xor]
            go_roundg (gk - 1)
            case measure => have := HK.out; omega
            case rel =>
              refine ⟨k + 1, by omega, by omega, by go_num, ⟨MendMem.drewN (HM.out.other (grown_set wr g15 _ _) L15.out) 1⟩, ⟨?_⟩, ⟨by have := HK.out; omega⟩⟩
              exact Arr.drewN (Arr.congr (Arr.set HP.out i (by omega) _) (fun j _ => ovk_next A S i k j)) 1
          · go_wp2
            go_roundg (q1 - 1)
            case measure => have := HQ.out; omega
            case rel =>
              exact ⟨i + 1, by omega, by go_num, HM, ⟨Arr.congr HP.out (fun j _ => ovk_done A S l i k j HAz.out (by omega))⟩, ⟨by have := HQ.out; omega⟩⟩
        · go_wp2
          go_roundg (q1 - 1)
          case measure => have := HQ.out; omega
          case rel =>
            exact ⟨i + 1, by omega, by go_num, HM, ⟨Arr.congr HP.out (fun j _ => ovk_done A S l i k j HAz.out (by omega))⟩, ⟨by have := HQ.out; omega⟩⟩
    · have hir : r = i := by omega
      subst hir
      clear HQ hi hlt
      go_wp2_with (first
        | ((with_reducible refine gate_dst (N := 18) rfl ?_); refine arr_alloc (enc := gv) (n := 66) (T := 90) rfl Try.zeroCells90 (by first | (go_simp; done) | (go_simp; rfl)) zeros_pol ?_; intro g18 e18 w8 p18 b8 l18; have P18 := Aside0.mk p18; have HM8 := Aside0.mk (HM.out.more b8); have L18 : Aside0 (g13 < g18 ∧ g15 < g18) := ⟨by have := Arr.lt HM.out.h13; have := Arr.lt HP.out; omega⟩; have HP8 := Aside0.mk (Arr.below HP.out b8); clear e18 p18 b8 l18))
      go_loopg [19] 70 (fun kq v19 w' => ∃ (i : Nat), i ≤ 34 ∧ 2 * i ≤ l + 1 ∧ v19 = .int .i64 ((2 * i + 1 : Nat) : Int) ∧ Aside0 (MendMem w w' gs g13 r S A) ∧ Aside0 (Pol w' g15 (ovk A S r 0)) ∧ Aside0 (Pol w' g18 (slk A i)) ∧ Aside0 (40 - i < kq))
      case atStart => exact ⟨0, by omega, by omega, rfl, HM8, HP8, ⟨Arr.congr P18.out (fun j _ => slk_zero A j)⟩, ⟨by omega⟩⟩
      case round =>
        clear HM8 HP8 P18 HM HP
        obtain ⟨i, hi, hil, rfl, HM, HP, HP18, HK⟩ := hrel
        by_cases hlt : 2 * i + 1 ≤ l
        · have hc1 : wr.cell? ⟨g13, 2 * i + 1, none⟩ = some (.int .u8 (gi (A (2 * i + 1)))) := Arr.cell HM.out.h13 _ (by omega)
          have hc2 : wr.cell? ⟨g18, 2 * i, none⟩ = some (.int .u8 (gi (slk A i (2 * i)))) := Arr.cell HP18.out _ (by omega)
          have hf2 : wr.frozen? ⟨g18, 2 * i, none⟩ = false := Arr.free HP18.out _ (by omega)
          go_wp2
          go_roundg (gk - 1)
          case measure => have := HK.out; omega
          case rel =>
            refine ⟨i + 1, by omega, by omega, by (first | rfl | (push_cast; congr 1; omega) | go_num), ⟨HM.out.other (grown_set wr g18 _ _) L18.out.1⟩, ⟨Arr.grown HP.out (grown_set wr g18 _ _) (by have := L18.out.2; simp; omega)⟩, ⟨?_⟩, ⟨by have := HK.out; omega⟩⟩
            exact Arr.congr (Arr.set HP18.out (2 * i) (by omega) _) (fun j _ => slk_next A i j)
        · have HS := Aside0.mk (Arr.congr HP18.out (fun j (_ : j < 66) => slk_done A l i j hlt hil))
          clear HP18 HK
          go_wp2_with (first | ((with_reducible refine gate_dst (N := 91) rfl ?_); refine Kd.R_ofstr _ 5 rfl (N := 91) rfl 9 26 _ rfl a0 rfl Try.underlying9 Try.underlying26 Try.underlying5 (by omega) (ok := fun _ => True) (okp := fun _ => True) (fun _ hk => hk) trivial (Below.refl _ _) (Nat.le_refl _) ?_; intro v20 w20 ho hb _ _; obtain ⟨gb, cb, e1, Q1, l1, RB⟩ := row_made ho (by omega); subst e1; have HM1 := Aside0.mk (HM.out.more hb); have HP1 := Aside0.mk (Arr.below HP.out hb); have HS1 := Aside0.mk (Arr.below HS.out hb); have HN1 : Aside0 (g13 < gb ∧ g15 < gb ∧ g18 < gb) := ⟨by have := Arr.lt HM.out.h13; have := Arr.lt HP.out; have := Arr.lt HS.out; omega⟩; have HB1 := Aside0.mk RB; clear ho hb Q1 l1 RB))
          obtain ⟨ov, hov⟩ : ∃ ov, ov = ovk A S r 0 := ⟨_, rfl⟩
          obtain ⟨sl, hsl⟩ : ∃ sl, sl = slo A l := ⟨_, rfl⟩
          rw [← hov] at HP1 HX
          rw [← hsl] at HS1 HX
          clear hov hsl HP HS HM
          have hlr' : (l : Int) < 66 := by omega
          go_loopg [94, 21, 22, 23, 24, 25, 26] 260 (fun kq v94 v21 v22 v23 v24 v25 v26 w' => ∃ (i : Nat), i ≤ a0.size ∧ v94 = .int .i64 (i : Int) ∧ Aside0 (MendMem w w' gs g13 r S A) ∧ Aside0 (Pol w' g15 ov) ∧ Aside0 (Pol w' g18 sl) ∧ Aside0 (RowB w' gb cb a0.size (fixK a0 r A ov sl l i)) ∧ Aside0 (∀ p, p < i → ¬ failB a0.size A sl l p) ∧ Aside0 (a0.size - i < kq))
          case atStart => exact ⟨0, by omega, rfl, HM1, HP1, HS1, ⟨RowB.congr HB1.out (fun p _ => fixK_zero a0 r A ov sl l p)⟩, ⟨fun p hp => absurd hp (Nat.not_lt_zero _)⟩, ⟨by omega⟩⟩
          case round =>
            clear HM1 HP1 HS1 HB1 hlt
            obtain ⟨i, hi, rfl, HM, HP, HS, HB, HF, HK⟩ := hrel
            by_cases hlt : i < a0.size
            · by_cases hz : evf A (l + 1) (yat a0.size i) = g0
              · have hz1 : (gi (evf A (l + 1) (yat a0.size i)) == 0) = true := by rw [hz]; rfl
                have HZ := Aside0.mk hz
                clear hz
                by_cases hs : evf sl (l + 1) (yat a0.size i) = g0
                · have HSL := Aside0.mk hs
                  clear hs
                  have hq := mendOut_fail HX.out hlt ⟨HZ.out, HSL.out⟩
                  obtain ⟨rfl, rfl⟩ := Prod.mk.inj hq
                  clear hq
                  go_wp2_with (first
                    | (go_at_call 52; (with_reducible refine (unit_call a0.size i hlt (by omega) _).mono ?_); rintro e w' ⟨rfl, ⟨n1, rfl⟩⟩)
                    | (go_at_call 53; (with_reducible refine (over_one (px (a0.size - 1 - i)) _ (px_ne _)).mono ?_); rintro e w' ⟨rfl, ⟨n2, rfl⟩⟩)
                    | (go_at_call 54; (with_reducible refine (poly_at A (yat a0.size i) g13 (l : Int) _ (by omega) (by omega) (fun j hj => Arr.cell (Arr.drewN HM.out.h13 _) j hj)).mono ?_); rintro e w' ⟨rfl, ⟨n3, rfl⟩⟩; rw [show ((l : Int) + 1).toNat = l + 1 from by omega])
                    | (go_at_call 54; (with_reducible refine (poly_at ov (yat a0.size i) g15 ((r : Int) - 1) _ (by omega) (by omega) (fun j hj => Arr.cell (Arr.drewN HP.out _) j hj)).mono ?_); rintro e w' ⟨rfl, ⟨n4, rfl⟩⟩; rw [show ((r : Int) - 1 + 1).toNat = r from by omega])
                    | (go_at_call 51; (with_reducible refine (times_same (px (a0.size - 1 - i)) (evf ov r (yat a0.size i)) _).mono ?_); rintro e w' ⟨rfl, rfl⟩)
                    | (go_at_call 54; (with_reducible refine (poly_at sl (yat a0.size i) g18 (l : Int) _ (by omega) (by omega) (fun j hj => Arr.cell (Arr.drewN HS.out _) j hj)).mono ?_); rintro e w' ⟨rfl, ⟨n5, rfl⟩⟩; rw [show ((l : Int) + 1).toNat = l + 1 from by omega, HSL.out])
                    | (go_at_call 53; (with_reducible refine (over_none (px (a0.size - 1 - i) * evf ov r (yat a0.size i)) _).mono ?_); rintro e w' ⟨rfl, ⟨n6, rfl⟩⟩))
                  refine bodyPost_ret (v := .tuple #[.string ⟨#[]⟩, .bool false]) (by simp [results, Try.results27]) rfl ⟨rfl, ?_⟩
                  exact (HM.out.drewN _).below
                · have HSL := Aside0.mk hs
                  clear hs
                  have hc1 : wr.cell? ⟨gb, i, none⟩ = some (.int .u8 (gi (fixK a0 r A ov sl l i i))) := RowB.cell HB.out i hlt
                  have hf1 : wr.frozen? ⟨gb, i, none⟩ = false := RowB.free HB.out i hlt
                  go_wp2_with (first
                    | (go_at_call 52; (with_reducible refine (unit_call a0.size i hlt (by omega) _).mono ?_); rintro e w' ⟨rfl, ⟨n1, rfl⟩⟩)
                    | (go_at_call 53; (with_reducible refine (over_one (px (a0.size - 1 - i)) _ (px_ne _)).mono ?_); rintro e w' ⟨rfl, ⟨n2, rfl⟩⟩)
                    | (go_at_call 54; (with_reducible refine (poly_at A (yat a0.size i) g13 (l : Int) _ (by omega) (by omega) (fun j hj => Arr.cell (Arr.drewN HM.out.h13 _) j hj)).mono ?_); rintro e w' ⟨rfl, ⟨n3, rfl⟩⟩; rw [show ((l : Int) + 1).toNat = l + 1 from by omega])
                    | (go_at_call 54; (with_reducible refine (poly_at ov (yat a0.size i) g15 ((r : Int) - 1) _ (by omega) (by omega) (fun j hj => Arr.cell (Arr.drewN HP.out _) j hj)).mono ?_); rintro e w' ⟨rfl, ⟨n4, rfl⟩⟩; rw [show ((r : Int) - 1 + 1).toNat = r from by omega])
                    | (go_at_call 51; (with_reducible refine (times_same (px (a0.size - 1 - i)) (evf ov r (yat a0.size i)) _).mono ?_); rintro e w' ⟨rfl, rfl⟩)
                    | (go_at_call 54; (with_reducible refine (poly_at sl (yat a0.size i) g18 (l : Int) _ (by omega) (by omega) (fun j hj => Arr.cell (Arr.drewN HS.out _) j hj)).mono ?_); rintro e w' ⟨rfl, ⟨n5, rfl⟩⟩; rw [show ((l : Int) + 1).toNat = l + 1 from by omega])
                    | (go_at_call 53; (with_reducible refine (over_call (px (a0.size - 1 - i) * evf ov r (yat a0.size i)) (evf sl (l + 1) (yat a0.size i)) _ HSL.out).mono ?_); rintro e w' ⟨rfl, ⟨n6, rfl⟩⟩))
                  rw [bits_xor]
                  go_roundg (gk - 1)
                  case measure => have := HK.out; omega
                  case rel =>
                    refine ⟨i + 1, by omega, by go_num, ⟨(HM.out.drewN _).other (grown_set _ gb _ _) HN1.out.1⟩, ⟨Arr.grown (Arr.drewN HP.out _) (grown_set _ gb _ _) (by have := HN1.out; simp; omega)⟩, ⟨Arr.grown (Arr.drewN HS.out _) (grown_set _ gb _ _) (by have := HN1.out; simp; omega)⟩, ⟨RowB.congr (RowB.set (RowB.drewN HB.out _) i _) (fun p _ => fixK_put HZ.out p)⟩, ⟨fun p hp hf => ?_⟩, ⟨by have := HK.out; omega⟩⟩
                    by_cases h2 : p < i
                    · exact HF.out p h2 hf
                    · have : p = i := by omega
                      subst this
                      exact HSL.out hf.2
              · have hz1 : (gi (evf A (l + 1) (yat a0.size i)) == 0) = false := by
                  rw [beq_eq_false_iff_ne]; intro h; exact hz (gi_inj h)
                have HZ := Aside0.mk hz
                clear hz
                go_wp2_with (first
                  | (go_at_call 52; (with_reducible refine (unit_call a0.size i hlt (by omega) _).mono ?_); rintro e w' ⟨rfl, ⟨n1, rfl⟩⟩)
                  | (go_at_call 53; (with_reducible refine (over_one (px (a0.size - 1 - i)) _ (px_ne _)).mono ?_); rintro e w' ⟨rfl, ⟨n2, rfl⟩⟩)
                  | (go_at_call 54; (with_reducible refine (poly_at A (yat a0.size i) g13 (l : Int) _ (by omega) (by omega) (fun j hj => Arr.cell (Arr.drewN HM.out.h13 _) j hj)).mono ?_); rintro e w' ⟨rfl, ⟨n3, rfl⟩⟩; rw [show ((l : Int) + 1).toNat = l + 1 from by omega]))
                go_roundg (gk - 1)
                case measure => have := HK.out; omega
                case rel =>
                  refine ⟨i + 1, by omega, by go_num, ⟨HM.out.drewN _⟩, ⟨Arr.drewN HP.out _⟩, ⟨Arr.drewN HS.out _⟩, ⟨RowB.drewN (RowB.congr HB.out (fun p _ => fixK_skip HZ.out p)) _⟩, ⟨fun p hp hf => ?_⟩, ⟨by have := HK.out; omega⟩⟩
                  by_cases h2 : p < i
                  · exact HF.out p h2 hf
                  · have : p = i := by omega
                    subst this
                    exact HZ.out hf.1
            · have hin : i = a0.size := by omega
              subst hin
              obtain ⟨code, hcode⟩ : ∃ c, c = mendCode a0 r A ov sl l := ⟨_, rfl⟩
              have HO := Aside0.mk (mendOut_ok HX.out HF.out)
              rw [← hcode] at HO
              obtain ⟨base, hB⟩ := HB.out
              have hcv := own_string (P := Try.prog) Try.underlying26 Try.underlying5 Try.underlying9 (Kd.own_of_R hB)
              have hcv' : strOfNums (gl a0.size (fixK a0 r A ov sl l a0.size)) = code := hcode.symm
              rw [hcv'] at hcv
              obtain ⟨⟨b1, e1⟩, hwh, hO⟩ := Option.bind_eq_some_iff.1 HO.out
              have Hwh := Aside0.mk hwh
              clear hwh HO
              clear hcode hcv'
              by_cases hb1 : b1 = true
              · subst hb1
                rw [if_pos rfl] at hO
                obtain ⟨b2, hwi, hO⟩ := Option.bind_eq_some_iff.1 hO
                have Hwi : Aside0 (mend_within.f K a0 code (r : Int) l2 (l3.length : Int) = some b2) := ⟨by rw [Hl3.out]; exact hwi⟩
                clear hwi
                by_cases hb2 : b2 = true
                · subst hb2
                  rw [if_pos rfl] at hO
                  obtain ⟨rfl, rfl⟩ := Prod.mk.inj (Option.some.inj hO)
                  clear hO
                  go_wp2_with (first
                    | (go_at_call 15; (with_reducible refine (reed_Whole.calls K code (r : Int) _ _ _ Hwh.out).mono ?_); rintro e w' ⟨rfl, hw1⟩; have HW1 := Aside0.mk hw1; clear hw1)
                    | (go_at_call 33; (with_reducible refine (mend_within.calls K a0 code (r : Int) A2 c2 l2 (l3.length : Int) _ _ (Kd.C_below HR2.out (below_step HM.out.below HW1.out)) HC2.out Hwi.out).mono ?_); rintro e w' ⟨rfl, hw2⟩; have HW2 := Aside0.mk hw2; clear hw2))
                  refine bodyPost_ret (v := .tuple #[.string code, .bool true]) (by simp [results, Try.results27]) rfl ⟨rfl, ?_⟩
                  exact below_step (below_step HM.out.below HW1.out) HW2.out
                · have hb2' : b2 = false := by simpa using hb2
                  subst hb2'
                  rw [if_neg (by simp)] at hO
                  obtain ⟨rfl, rfl⟩ := Prod.mk.inj (Option.some.inj hO)
                  clear hO hb2
                  go_wp2_with (first
                    | (go_at_call 15; (with_reducible refine (reed_Whole.calls K code (r : Int) _ _ _ Hwh.out).mono ?_); rintro e w' ⟨rfl, hw1⟩; have HW1 := Aside0.mk hw1; clear hw1)
                    | (go_at_call 33; (with_reducible refine (mend_within.calls K a0 code (r : Int) A2 c2 l2 (l3.length : Int) _ _ (Kd.C_below HR2.out (below_step HM.out.below HW1.out)) HC2.out Hwi.out).mono ?_); rintro e w' ⟨rfl, hw2⟩; have HW2 := Aside0.mk hw2; clear hw2))
                  refine bodyPost_ret (v := .tuple #[.string ⟨#[]⟩, .bool false]) (by simp [results, Try.results27]) rfl ⟨rfl, ?_⟩
                  exact below_step (below_step HM.out.below HW1.out) HW2.out
              · have hb1' : b1 = false := by simpa using hb1
                subst hb1'
                rw [if_neg (by simp)] at hO
                obtain ⟨rfl, rfl⟩ := Prod.mk.inj (Option.some.inj hO)
                clear hO hb1
                go_wp2_with (first
                  | (go_at_call 15; (with_reducible refine (reed_Whole.calls K code (r : Int) _ _ _ Hwh.out).mono ?_); rintro e w' ⟨rfl, hw1⟩; have HW1 := Aside0.mk hw1; clear hw1))
                refine bodyPost_ret (v := .tuple #[.string ⟨#[]⟩, .bool false]) (by simp [results, Try.results27]) rfl ⟨rfl, ?_⟩
                exact below_step HM.out.below HW1.out
end Go.Proofs.Ytdgeapgfpikcmaa.Hand
