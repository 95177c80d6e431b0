/-
  mend.mend as a function: what the print's contracts ask of it.
-/
import Derived.Test.YtdgeapgfpikcmaaM0
namespace Go.Proofs.Ytdgeapgfpikcmaa.Hand
open Go.RowKit Gf Go.Proofs.Ytdgeapgfpikcmaa.Q Go.Proofs.YtdgeapgfpikcmaaV.PrintWords Go.Proofs.YtdgeapgfpikcmaaV.PrintLast Go.Proofs.YtdgeapgfpikcmaaV.PrintMore

/-- a row of bytes as the coefficients of a polynomial -/
def gam (g : List Int) (j : Nat) : G := if j < g.length then ig (rd g (j : Int)) else g0
theorem gam_gl {n : Nat} {P : Nat → G} (h : ∀ k, n ≤ k → P k = g0) (j : Nat) : gam (gl n P) j = P j := by
  unfold gam
  rw [gl_len]
  by_cases hj : j < n
  · rw [if_pos hj, gl_get n P j hj, ig_gi]
  · rw [if_neg hj, h j (by omega)]
/-- the search's outcome for these rows -/
def mendRun (s : List Int) (g : List Int) (f r : Nat) : St := krun (gam s) f (gam g) (r - f)
/-- what mend.mend gives -/
def mendF (k : Nat) (a0 : ByteArray) (a1 : Int) (l2 : List Bool) (l3 : List Int) : Option (ByteArray × Bool) :=
  (reed_Syndromes.f k a0 a1).bind fun s => (mend_locator.f k l3 (a0.size : Int)).bind fun g =>
    if 2 ≤ a1 ∧ a1 ≤ 64 ∧ 0 < a0.size ∧ a0.size ≤ 255 ∧ (l3.length : Int) ≤ a1 ∧ s.2 = 0 ∧ s.1 = gl a1.toNat (gam s.1) ∧ g = gl (l3.length + 1) (gam g) ∧ gam g 0 = g1
    then mendOut k a0 a1.toNat l2 l3.length (mendRun s.1 g l3.length a1.toNat).A (ovk (mendRun s.1 g l3.length a1.toNat).A (gam s.1) a1.toNat 0) (slo (mendRun s.1 g l3.length a1.toNat).A (mendRun s.1 g l3.length a1.toNat).l) (mendRun s.1 g l3.length a1.toNat).l
    else none
theorem mendOut_mono (k : Nat) (a0 : ByteArray) (r : Nat) (l2 : List Bool) (f : Nat) (A ov sl : Nat → G) (l : Nat) : LeO (mendOut k a0 r l2 f A ov sl l) (mendOut (k + 1) a0 r l2 f A ov sl l) := by
  unfold mendOut
  refine LeO.ite (LeO.refl _) (LeO.bind (reed_Whole.mono _ _ k) fun wh => LeO.ite (LeO.bind (mend_within.mono _ _ _ _ _ k) fun wi => LeO.refl _) (LeO.refl _))
theorem mendF_mono (a0 : ByteArray) (a1 : Int) (l2 : List Bool) (l3 : List Int) (k : Nat) : LeO (mendF k a0 a1 l2 l3) (mendF (k + 1) a0 a1 l2 l3) := by
  unfold mendF
  exact LeO.bind (reed_Syndromes.mono _ _ k) fun s => LeO.bind (mend_locator.mono _ _ k) fun g => LeO.ite (mendOut_mono _ _ _ _ _ _ _ _ _) (LeO.refl _)
theorem mendF_calls (k : Nat) (a0 : ByteArray) (a1 : Int) (A2 : Option Addr) (c2 : Nat) (l2 : List Bool) (A3 : Option Addr) (c3 : Nat) (l3 : List Int) (r1 : ByteArray) (r2 : Bool) (w : World)
    (hr2 : Kd.C Kd.bool w A2 l2.length l2) (hc2 : l2.length ≤ c2) (hr3 : Kd.C (Kd.int .i64) w A3 l3.length l3) (hc3 : l3.length ≤ c3) (h : mendF k a0 a1 l2 l3 = some (r1, r2)) :
    Calls Try.prog 27 #[.string a0, .int .i64 a1, .slice A2 l2.length c2, .slice A3 l3.length c3] w fun e w' => e = .returned (.tuple #[.string r1, .bool r2]) ∧ Below w.heap.size w w' := by
  obtain ⟨s, hs, h⟩ := Option.bind_eq_some_iff.1 h
  obtain ⟨g, hg, h⟩ := Option.bind_eq_some_iff.1 h
  by_cases hc : 2 ≤ a1 ∧ a1 ≤ 64 ∧ 0 < a0.size ∧ a0.size ≤ 255 ∧ (l3.length : Int) ≤ a1 ∧ s.2 = 0 ∧ s.1 = gl a1.toNat (gam s.1) ∧ g = gl (l3.length + 1) (gam g) ∧ gam g 0 = g1
  · rw [if_pos hc] at h
    obtain ⟨c1, c2', c3', c4, c5, c6, c7, c8, c9⟩ := hc
    obtain ⟨r, rfl⟩ : ∃ r : Nat, a1 = (r : Int) := ⟨a1.toNat, by omega⟩
    have e1 : ((r : Int)).toNat = r := by omega
    rw [e1] at h c7
    have hs' : reed_Syndromes.f k a0 (r : Int) = some (gl r (gam s.1), 0) := by
      rw [hs, ← c7, ← c6]
    have hd : ∀ j, l3.length < j → gam g j = g0 := fun j hj => by
      unfold gam
      have hl : g.length = l3.length + 1 := by rw [c8, gl_len]
      rw [if_neg (by omega)]
    exact mend_walk k a0.size r l3.length a0 (gam s.1) (gam g) A2 A3 c2 c3 l2 l3 w rfl c3' c4 (by omega) (by omega) (by omega) rfl hr2 hc2 hr3 hc3 hs' (by rw [hg, ← c8]) hd c9 _ _ rfl rfl r1 r2 h
  · rw [if_neg hc] at h
    cases h
end Go.Proofs.Ytdgeapgfpikcmaa.Hand
