/-
  A number cut to an axis: the program's way and the document's.
-/
import Derived.Test.YtgfbejlggakkhaaQx4
import Derived.Test.YtgfbejlggakkhaaQx2
import Derived.Test.YtgfbejlggakkhaaQx5
import Derived.Test.YtgfbejlggakkhaaQx4
import Derived.Test.YtgfbejlggakkhaaF65
namespace Go.Proofs.Ytgfbejlggakkhaa.Hand
open Go.RowKit Go.Proofs.Ytgfbejlggakkhaa.Q Go.Proofs.YtgfbejlggakkhaaW.PrintWords Go.Proofs.YtgfbejlggakkhaaW.PrintLast Go.Proofs.YtgfbejlggakkhaaW.PrintMore Go.Proofs.Ytgfbejlggakkhaa.F64
set_option linter.unusedVariables false

/-- the odd number that is told, out of the number made whole above -/
def axisR (c e : Int) : Int := if (max (-e) (min c e)) % 2 = 0 then max (max (-e) (min c e) - 1) (-e) else max (-e) (min c e)
theorem mx_max (a b : Int) : mx a b = max a b := by unfold mx; split <;> omega
theorem wrap_in {a : Int} (h1 : -9223372036854775808 ≤ a) (h2 : a ≤ 9223372036854775807) : wrap64 a = a := by unfold wrap64; omega
theorem tmod_two (a : Int) : Int.tmod a 2 = 0 ↔ a % 2 = 0 := ⟨fun h => Int.emod_eq_zero_of_dvd (Int.dvd_of_tmod_eq_zero h), fun h => Int.tmod_eq_zero_of_dvd (Int.dvd_of_emod_eq_zero h)⟩
theorem prog_axis (x : Nat) (e c : Int) (k : Nat) (h1 : 1 ≤ e) (h2 : e ≤ 15) (h3 : e % 2 = 1) (hx : (Ieee.double.read x).isNaN = false)
    (hc : ∃ t3, fint .up (fpick false .gt (Op.negFloat .f64 (floatOfInt .f64 e)) (fpick true .lt x (floatOfInt .f64 e))) = some t3 ∧ floatToIntVal .f64 t3 .i64 = some (max (-e) (min c e))) : slice_Axis.f (k + 1) x e = some (axisR c e, 0) := by
  obtain ⟨t3, ht, hi⟩ := hc
  unfold slice_Axis.f
  rw [if_neg (by omega), if_neg (by omega), if_neg (by rw [tmod_two]; omega)]
  unfold math_IsNaN.f
  rw [ne_self, hx, Option.bind_some]
  simp only [slice_Axis.j0]
  rw [if_neg Bool.false_ne_true]
  unfold math_Min.f math_Max.f math_Ceil.f
  simp only [Option.bind_some, ht, hi]
  unfold axisR
  simp only [mx_max]
  rw [wrap_in (a := -e) (by omega) (by omega)]
  by_cases hp : (max (-e) (min c e)) % 2 = 0
  · rw [if_pos ((tmod_two _).2 hp), if_pos hp, wrap_in (by omega) (by omega)]
  · rw [if_neg (fun h => hp ((tmod_two _).1 h)), if_neg hp]
    congr 2
    omega
theorem ref_axis_loop (x : Nat) (e c : Int) (h1 : 1 ≤ e) (h2 : e ≤ 15) (h3 : e % 2 = 1) (hg : ∀ m : Int, -17 ≤ m → m ≤ 17 → (ford x (floatOfInt .f64 m) == some .gt) = decide (m < c)) (d : Nat) :
    ∀ (k : Nat) (n : Int), e - n = 2 * d → -e ≤ n → (n = -e ∨ n - 1 < c) → d < k → foghornref05_Axis.l0 k x e n = some (axisR c e, 0) := by
  induction d with
  | zero =>
    intro k n hd hn ho hk
    obtain ⟨k, rfl⟩ : ∃ m, k = m + 1 := ⟨k - 1, by omega⟩
    rw [foghornref05_Axis.l0, if_neg (by omega)]
    unfold axisR
    split <;> (congr 2; omega)
  | succ d ih =>
    intro k n hd hn ho hk
    obtain ⟨k, rfl⟩ : ∃ m, k = m + 1 := ⟨k - 1, by omega⟩
    rw [foghornref05_Axis.l0, if_pos (by omega), wrap_in (a := n + 1) (by omega) (by omega), wrap_in (a := n + 2) (by omega) (by omega), hg _ (by omega) (by omega)]
    by_cases hl : n + 1 < c
    · rw [decide_eq_true hl, if_pos rfl]
      exact ih k (n + 2) (by omega) (by omega) (.inr (by omega)) (by omega)
    · rw [decide_eq_false hl, if_neg Bool.false_ne_true]
      unfold axisR
      split <;> (congr 2; omega)
theorem ref_axis (x : Nat) (e c : Int) (k : Nat) (h1 : 1 ≤ e) (h2 : e ≤ 15) (h3 : e % 2 = 1) (hx : (Ieee.double.read x).isNaN = false) (hg : ∀ m : Int, -17 ≤ m → m ≤ 17 → (ford x (floatOfInt .f64 m) == some .gt) = decide (m < c)) :
    foghornref05_Axis.f (k + 20) x e = some (axisR c e, 0) := by
  unfold foghornref05_Axis.f
  rw [if_neg (by omega), if_neg (by omega), if_neg (by rw [tmod_two]; omega), ne_self, hx]
  show foghornref05_Axis.j0 ((k + 19) + 1) x e false = _
  rw [foghornref05_Axis.j0, if_neg Bool.false_ne_true, wrap_in (a := -e) (by omega) (by omega)]
  obtain ⟨d, hd⟩ : ∃ d : Nat, e = d := ⟨e.toNat, by omega⟩
  exact ref_axis_loop x e c h1 h2 h3 hg d (k + 19) (-e) (by omega) (by omega) (.inl rfl) (by omega)
/-- the same answer, whatever comes in -/
theorem axis_both (x : Nat) (e : Int) : ∃ r1 r2 : Int, (∀ k, slice_Axis.f (k + 20) x e = some (r1, r2)) ∧ (∀ k, foghornref05_Axis.f (k + 20) x e = some (r1, r2)) ∧
    (1 ≤ e → e ≤ 15 → e % 2 = 1 → (Ieee.double.read x).isNaN = false → r2 = 0 ∧ ∃ c : Int, r1 = axisR c e ∧ (∀ m : Int, -17 ≤ m → m ≤ 17 → (ford x (floatOfInt .f64 m) == some .gt) = decide (m < c))) := by
  by_cases h1 : e < 1
  · refine ⟨0, 1, fun k => ?_, fun k => ?_, fun h => by omega⟩
    · unfold slice_Axis.f; rw [if_pos h1]; show slice_Axis.j0 ((k + 19) + 1) x e true = _; rw [slice_Axis.j0, if_pos rfl]
    · unfold foghornref05_Axis.f; rw [if_pos h1]; show foghornref05_Axis.j0 ((k + 19) + 1) x e true = _; rw [foghornref05_Axis.j0, if_pos rfl]
  by_cases h2 : e > 15
  · refine ⟨0, 1, fun k => ?_, fun k => ?_, fun h h' => by omega⟩
    · unfold slice_Axis.f; rw [if_neg h1, if_pos h2]; show slice_Axis.j0 ((k + 19) + 1) x e true = _; rw [slice_Axis.j0, if_pos rfl]
    · unfold foghornref05_Axis.f; rw [if_neg h1, if_pos h2]; show foghornref05_Axis.j0 ((k + 19) + 1) x e true = _; rw [foghornref05_Axis.j0, if_pos rfl]
  by_cases h3 : e % 2 = 0
  · refine ⟨0, 1, fun k => ?_, fun k => ?_, fun h h' h'' => by omega⟩
    · unfold slice_Axis.f; rw [if_neg h1, if_neg h2, if_pos ((tmod_two e).2 h3)]; show slice_Axis.j0 ((k + 19) + 1) x e true = _; rw [slice_Axis.j0, if_pos rfl]
    · unfold foghornref05_Axis.f; rw [if_neg h1, if_neg h2, if_pos ((tmod_two e).2 h3)]; show foghornref05_Axis.j0 ((k + 19) + 1) x e true = _; rw [foghornref05_Axis.j0, if_pos rfl]
  cases hx : (Ieee.double.read x).isNaN with
  | true =>
    refine ⟨0, 1, fun k => ?_, fun k => ?_, fun _ _ _ h => by cases h⟩
    · unfold slice_Axis.f math_IsNaN.f; rw [if_neg h1, if_neg h2, if_neg (fun h => h3 ((tmod_two e).1 h)), ne_self, hx, Option.bind_some]; show slice_Axis.j0 ((k + 19) + 1) x e true = _; rw [slice_Axis.j0, if_pos rfl]
    · unfold foghornref05_Axis.f; rw [if_neg h1, if_neg h2, if_neg (fun h => h3 ((tmod_two e).1 h)), ne_self, hx]; show foghornref05_Axis.j0 ((k + 19) + 1) x e true = _; rw [foghornref05_Axis.j0, if_pos rfl]
  | false =>
    obtain ⟨c, hg, hc⟩ := axis_value x hx e (by omega) (by omega)
    exact ⟨axisR c e, 0, fun k => prog_axis x e c (k + 19) (by omega) (by omega) (by omega) hx hc, fun k => ref_axis x e c k (by omega) (by omega) (by omega) hx hg, fun _ _ _ _ => ⟨rfl, c, rfl, hg⟩⟩
end Go.Proofs.Ytgfbejlggakkhaa.Hand
