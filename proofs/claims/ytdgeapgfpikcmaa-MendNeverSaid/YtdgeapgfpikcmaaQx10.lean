-- by this place's own print2.py over the kit's print
import Derived.Test.YtdgeapgfpikcmaaQx0
import Derived.Test.YtdgeapgfpikcmaaQx2
import Derived.Test.YtdgeapgfpikcmaaQx4
import Derived.Test.YtdgeapgfpikcmaaQx6
import Derived.Test.YtdgeapgfpikcmaaQx9
namespace Go.Proofs.Ytdgeapgfpikcmaa.Q
open Go.RowKit Go.Proofs.YtdgeapgfpikcmaaV.PrintWords Go.Proofs.YtdgeapgfpikcmaaV.PrintLast Go.Proofs.YtdgeapgfpikcmaaV.PrintMore
attribute [local go_sem] max2_int min2_int max_two min_two max_three min_three max_four min_four   -- for this text's walks alone
set_option linter.unusedVariables false
set_option linter.unusedSimpArgs false

/-! ### foghornlaw20_MendNever: function 4 -/
mutual
def foghornlaw20_MendNever.j0 : Nat → ByteArray → Int → List Int → ByteArray → Int → ByteArray → Bool → ByteArray → List Int → List Int → Option (Bool)
  | 0, _, _, _, _, _, _, _, _, _, _ => none
  | k + 1, x0, x1, x2, x3, x10, x11, x57, x312000, x312001, x312002 => if x57 = true then (foghornlaw20_MendNever.l0 k x0 x1 x2 x3 x10 x312000 x312001 x312002) else (foghornlaw20_MendNever.j2 k x0 x1 x2 x10 x11 x312000 x312001 x312002)
def foghornlaw20_MendNever.j2 : Nat → ByteArray → Int → List Int → Int → ByteArray → ByteArray → List Int → List Int → Option (Bool)
  | 0, _, _, _, _, _, _, _, _ => none
  | k + 1, x0, x1, x2, x10, x11, x312000, x312001, x312002 => (mend_Within.f k x0 x11 x1 x2).bind fun bt314 => (if x11.toList = ([] : List UInt8) then (foghornlaw20_MendNever.j3 k x0 x1 x2 x10 x11 bt314.1 false x312000 x312001 x312002) else (foghornlaw20_MendNever.j3 k x0 x1 x2 x10 x11 bt314.1 (bt314.2 != 0) x312000 x312001 x312002))
def foghornlaw20_MendNever.j3 : Nat → ByteArray → Int → List Int → Int → ByteArray → Bool → Bool → ByteArray → List Int → List Int → Option (Bool)
  | 0, _, _, _, _, _, _, _, _, _, _ => none
  | k + 1, x0, x1, x2, x10, x11, x12, x92, x312000, x312001, x312002 => if x92 = true then (some false) else (if x10 = 9 then (if x12 = true then (some false) else (if x312000.toList = ([] : List UInt8) then (some ((wrap64 ((x312001.length : Int) + (x312002.length : Int))) == 0)) else (some false))) else ((reed_Whole.f k x312000 x1).bind fun bt316 => ((mend_Within.f k x0 x312000 x1 x2).bind fun bt318 => ((mend_Mend.f k x312000 x1 x2).bind fun bt320 => (if x10 = 0 then (if bt316.2 = 0 then (if bt318.2 = 0 then (if bt320.2.2.2 = 0 then (if bt316.1 = true then (if bt318.1 = true then (if bt320.1.toList = x312000.toList then (if (bt320.2.1.length : Int) = 0 then (if (x312002.length : Int) = (x2.length : Int) then (if (wrap64 ((wrap64 (2 * (x312001.length : Int))) + (x2.length : Int))) > x1 then (foghornlaw20_MendNever.j4 k x0 x2 true x312000 x312001 x312002) else (if x12 = true then (foghornlaw20_MendNever.j4 k x0 x2 (x11.toList != x312000.toList) x312000 x312001 x312002) else (foghornlaw20_MendNever.j4 k x0 x2 false x312000 x312001 x312002))) else (foghornlaw20_MendNever.j4 k x0 x2 true x312000 x312001 x312002)) else (foghornlaw20_MendNever.j4 k x0 x2 true x312000 x312001 x312002)) else (foghornlaw20_MendNever.j4 k x0 x2 true x312000 x312001 x312002)) else (foghornlaw20_MendNever.j4 k x0 x2 true x312000 x312001 x312002)) else (foghornlaw20_MendNever.j4 k x0 x2 true x312000 x312001 x312002)) else (foghornlaw20_MendNever.j4 k x0 x2 true x312000 x312001 x312002)) else (foghornlaw20_MendNever.j4 k x0 x2 true x312000 x312001 x312002)) else (foghornlaw20_MendNever.j4 k x0 x2 true x312000 x312001 x312002)) else (foghornlaw20_MendNever.j4 k x0 x2 true x312000 x312001 x312002))))))
def foghornlaw20_MendNever.j4 : Nat → ByteArray → List Int → Bool → ByteArray → List Int → List Int → Option (Bool)
  | 0, _, _, _, _, _, _ => none
  | k + 1, x0, x2, x198, x312000, x312001, x312002 => if x198 = true then (some false) else (foghornlaw20_MendNever.l1 k x0 x2 0 0 x312000 x312001 x312002)
def foghornlaw20_MendNever.l1 : Nat → ByteArray → List Int → Int → Int → ByteArray → List Int → List Int → Option (Bool)
  | 0, _, _, _, _, _, _, _ => none
  | k + 1, x0, x2, x20, x21, x312000, x312001, x312002 => if x21 < (x0.size : Int) then (foghornlaw20_MendNever.l2 k x0 x2 x20 x21 false 0 x312000 x312001 x312002) else (some (x20 == (x312001.length : Int)))
def foghornlaw20_MendNever.l2 : Nat → ByteArray → List Int → Int → Int → Bool → Int → ByteArray → List Int → List Int → Option (Bool)
  | 0, _, _, _, _, _, _, _, _, _ => none
  | k + 1, x0, x2, x20, x21, x22, x23, x312000, x312001, x312002 => if x23 < (x2.length : Int) then (if x22 = true then (foghornlaw20_MendNever.l2 k x0 x2 x20 x21 true (wrap64 (x23 + 1)) x312000 x312001 x312002) else (if 0 ≤ x23 then (foghornlaw20_MendNever.l2 k x0 x2 x20 x21 ((rd x2 x23) == x21) (wrap64 (x23 + 1)) x312000 x312001 x312002) else (none))) else (if x22 = true then (foghornlaw20_MendNever.j7 k x0 x2 x20 x21 false x312000 x312001 x312002) else (if 0 ≤ x21 then (if x21 < (x0.size : Int) then (if x21 < (x312000.size : Int) then (foghornlaw20_MendNever.j7 k x0 x2 x20 x21 ((bt x0 x21) != (bt x312000 x21)) x312000 x312001 x312002) else (none)) else (none)) else (none)))
def foghornlaw20_MendNever.j7 : Nat → ByteArray → List Int → Int → Int → Bool → ByteArray → List Int → List Int → Option (Bool)
  | 0, _, _, _, _, _, _, _, _ => none
  | k + 1, x0, x2, x20, x21, x231, x312000, x312001, x312002 => if x231 = true then (if x20 ≥ (x312001.length : Int) then (some false) else (if 0 ≤ x20 then (if x20 < (x312001.length : Int) then (if (rd x312001 x20) = x21 then (foghornlaw20_MendNever.l1 k x0 x2 (wrap64 (x20 + 1)) (wrap64 (x21 + 1)) x312000 x312001 x312002) else (some false)) else (none)) else (none))) else (foghornlaw20_MendNever.l1 k x0 x2 x20 (wrap64 (x21 + 1)) x312000 x312001 x312002)
def foghornlaw20_MendNever.l0 : Nat → ByteArray → Int → List Int → ByteArray → Int → ByteArray → List Int → List Int → Option (Bool)
  | 0, _, _, _, _, _, _, _, _ => none
  | k + 1, x0, x1, x2, x3, x10, x312000, x312001, x312002 => if (x3.size : Int) < (wrap64 ((x0.size : Int) - x1)) then (if x3.size + x3.size ≤ 9223372036854775807 then (foghornlaw20_MendNever.l0 k x0 x1 x2 (x3 ++ x3) x10 x312000 x312001 x312002) else (none)) else (if 0 ≤ (wrap64 ((x0.size : Int) - x1)) then (if (wrap64 ((x0.size : Int) - x1)) ≤ (x3.size : Int) then ((foghornref19_Encode.f k (x3.extract 0 ((wrap64 ((x0.size : Int) - x1)) : Int).toNat) x1).bind fun bt312 => (foghornlaw20_MendNever.j2 k x0 x1 x2 x10 bt312.1 x312000 x312001 x312002)) else (none)) else (none))
end
def foghornlaw20_MendNever.f (k : Nat) (a0 : ByteArray) (a1 : Int) (l2 : List Int) (a3 : ByteArray) : Option (Bool) := (foghornlaw20_awake.f k).bind fun t302 => (if t302 = true then ((mend_Mend.f k a0 a1 l2).bind fun bt303 => (if bt303.2.2.2 = 1 then (if bt303.1.toList = ([] : List UInt8) then (some ((wrap64 ((bt303.2.1.length : Int) + (bt303.2.2.1.length : Int))) == 0)) else (some false)) else (if (a3.size : Int) > 0 then (foghornlaw20_MendNever.j0 k a0 a1 l2 a3 bt303.2.2.2 (⟨#[]⟩ : ByteArray) (decide ((wrap64 ((a0.size : Int) - a1)) > 0)) bt303.1 bt303.2.1 bt303.2.2.1) else (foghornlaw20_MendNever.j0 k a0 a1 l2 a3 bt303.2.2.2 (⟨#[]⟩ : ByteArray) false bt303.1 bt303.2.1 bt303.2.2.1)))) else (some false))
theorem foghornlaw20_MendNever.mono_l : ∀ k, (∀ y0 y1 y2 y3 y4 y5 y6 y7 y8 y9, LeO (foghornlaw20_MendNever.j0 k y0 y1 y2 y3 y4 y5 y6 y7 y8 y9) (foghornlaw20_MendNever.j0 (k + 1) y0 y1 y2 y3 y4 y5 y6 y7 y8 y9)) ∧ (∀ y0 y1 y2 y3 y4 y5 y6 y7, LeO (foghornlaw20_MendNever.j2 k y0 y1 y2 y3 y4 y5 y6 y7) (foghornlaw20_MendNever.j2 (k + 1) y0 y1 y2 y3 y4 y5 y6 y7)) ∧ (∀ y0 y1 y2 y3 y4 y5 y6 y7 y8 y9, LeO (foghornlaw20_MendNever.j3 k y0 y1 y2 y3 y4 y5 y6 y7 y8 y9) (foghornlaw20_MendNever.j3 (k + 1) y0 y1 y2 y3 y4 y5 y6 y7 y8 y9)) ∧ (∀ y0 y1 y2 y3 y4 y5, LeO (foghornlaw20_MendNever.j4 k y0 y1 y2 y3 y4 y5) (foghornlaw20_MendNever.j4 (k + 1) y0 y1 y2 y3 y4 y5)) ∧ (∀ y0 y1 y2 y3 y4 y5 y6, LeO (foghornlaw20_MendNever.l1 k y0 y1 y2 y3 y4 y5 y6) (foghornlaw20_MendNever.l1 (k + 1) y0 y1 y2 y3 y4 y5 y6)) ∧ (∀ y0 y1 y2 y3 y4 y5 y6 y7 y8, LeO (foghornlaw20_MendNever.l2 k y0 y1 y2 y3 y4 y5 y6 y7 y8) (foghornlaw20_MendNever.l2 (k + 1) y0 y1 y2 y3 y4 y5 y6 y7 y8)) ∧ (∀ y0 y1 y2 y3 y4 y5 y6 y7, LeO (foghornlaw20_MendNever.j7 k y0 y1 y2 y3 y4 y5 y6 y7) (foghornlaw20_MendNever.j7 (k + 1) y0 y1 y2 y3 y4 y5 y6 y7)) ∧ (∀ y0 y1 y2 y3 y4 y5 y6 y7, LeO (foghornlaw20_MendNever.l0 k y0 y1 y2 y3 y4 y5 y6 y7) (foghornlaw20_MendNever.l0 (k + 1) y0 y1 y2 y3 y4 y5 y6 y7))
  | 0 => ⟨fun _ _ _ _ _ _ _ _ _ _ r h => by simp [foghornlaw20_MendNever.j0] at h, fun _ _ _ _ _ _ _ _ r h => by simp [foghornlaw20_MendNever.j2] at h, fun _ _ _ _ _ _ _ _ _ _ r h => by simp [foghornlaw20_MendNever.j3] at h, fun _ _ _ _ _ _ r h => by simp [foghornlaw20_MendNever.j4] at h, fun _ _ _ _ _ _ _ r h => by simp [foghornlaw20_MendNever.l1] at h, fun _ _ _ _ _ _ _ _ _ r h => by simp [foghornlaw20_MendNever.l2] at h, fun _ _ _ _ _ _ _ _ r h => by simp [foghornlaw20_MendNever.j7] at h, fun _ _ _ _ _ _ _ _ r h => by simp [foghornlaw20_MendNever.l0] at h⟩
  | k + 1 => by
    obtain ⟨ih0, ih1, ih2, ih3, ih4, ih5, ih6, ih7⟩ := foghornlaw20_MendNever.mono_l k
    refine ⟨?_, ?_, ?_, ?_, ?_, ?_, ?_, ?_⟩
    · intro y0 y1 y2 y3 y4 y5 y6 y7 y8 y9
      unfold foghornlaw20_MendNever.j0
      repeat' first
      | (with_reducible exact ih0 _ _ _ _ _ _ _ _ _ _)
      | (with_reducible exact ih1 _ _ _ _ _ _ _ _)
      | (with_reducible exact ih2 _ _ _ _ _ _ _ _ _ _)
      | (with_reducible exact ih3 _ _ _ _ _ _)
      | (with_reducible exact ih4 _ _ _ _ _ _ _)
      | (with_reducible exact ih5 _ _ _ _ _ _ _ _ _)
      | (with_reducible exact ih6 _ _ _ _ _ _ _ _)
      | (with_reducible exact ih7 _ _ _ _ _ _ _ _)
      | (with_reducible exact foghornlaw20_awake.mono _)
      | (with_reducible exact foghornref19_Encode.mono _ _ _)
      | (with_reducible exact mend_Mend.mono _ _ _ _)
      | (with_reducible exact mend_Within.mono _ _ _ _ _)
      | (with_reducible exact reed_Whole.mono _ _ _)
      | (with_reducible exact LeO.refl _)
      | (with_reducible exact LeO.none _)
      | (with_reducible refine LeO.ite ?_ ?_)
      | (with_reducible refine LeO.bind ?_ (fun _ => ?_))
      | exact ih0 _ _ _ _ _ _ _ _ _ _
      | exact ih1 _ _ _ _ _ _ _ _
      | exact ih2 _ _ _ _ _ _ _ _ _ _
      | exact ih3 _ _ _ _ _ _
      | exact ih4 _ _ _ _ _ _ _
      | exact ih5 _ _ _ _ _ _ _ _ _
      | exact ih6 _ _ _ _ _ _ _ _
      | exact ih7 _ _ _ _ _ _ _ _
      | exact foghornlaw20_awake.mono _
      | exact foghornref19_Encode.mono _ _ _
      | exact mend_Mend.mono _ _ _ _
      | exact mend_Within.mono _ _ _ _ _
      | exact reed_Whole.mono _ _ _
      | exact LeO.none _
      | refine LeO.ite ?_ ?_
      | refine LeO.bind ?_ (fun _ => ?_)
    · intro y0 y1 y2 y3 y4 y5 y6 y7
      unfold foghornlaw20_MendNever.j2
      repeat' first
      | (with_reducible exact ih0 _ _ _ _ _ _ _ _ _ _)
      | (with_reducible exact ih1 _ _ _ _ _ _ _ _)
      | (with_reducible exact ih2 _ _ _ _ _ _ _ _ _ _)
      | (with_reducible exact ih3 _ _ _ _ _ _)
      | (with_reducible exact ih4 _ _ _ _ _ _ _)
      | (with_reducible exact ih5 _ _ _ _ _ _ _ _ _)
      | (with_reducible exact ih6 _ _ _ _ _ _ _ _)
      | (with_reducible exact ih7 _ _ _ _ _ _ _ _)
      | (with_reducible exact foghornlaw20_awake.mono _)
      | (with_reducible exact foghornref19_Encode.mono _ _ _)
      | (with_reducible exact mend_Mend.mono _ _ _ _)
      | (with_reducible exact mend_Within.mono _ _ _ _ _)
      | (with_reducible exact reed_Whole.mono _ _ _)
      | (with_reducible exact LeO.refl _)
      | (with_reducible exact LeO.none _)
      | (with_reducible refine LeO.ite ?_ ?_)
      | (with_reducible refine LeO.bind ?_ (fun _ => ?_))
      | exact ih0 _ _ _ _ _ _ _ _ _ _
      | exact ih1 _ _ _ _ _ _ _ _
      | exact ih2 _ _ _ _ _ _ _ _ _ _
      | exact ih3 _ _ _ _ _ _
      | exact ih4 _ _ _ _ _ _ _
      | exact ih5 _ _ _ _ _ _ _ _ _
      | exact ih6 _ _ _ _ _ _ _ _
      | exact ih7 _ _ _ _ _ _ _ _
      | exact foghornlaw20_awake.mono _
      | exact foghornref19_Encode.mono _ _ _
      | exact mend_Mend.mono _ _ _ _
      | exact mend_Within.mono _ _ _ _ _
      | exact reed_Whole.mono _ _ _
      | exact LeO.none _
      | refine LeO.ite ?_ ?_
      | refine LeO.bind ?_ (fun _ => ?_)
    · intro y0 y1 y2 y3 y4 y5 y6 y7 y8 y9
      unfold foghornlaw20_MendNever.j3
      repeat' first
      | (with_reducible exact ih0 _ _ _ _ _ _ _ _ _ _)
      | (with_reducible exact ih1 _ _ _ _ _ _ _ _)
      | (with_reducible exact ih2 _ _ _ _ _ _ _ _ _ _)
      | (with_reducible exact ih3 _ _ _ _ _ _)
      | (with_reducible exact ih4 _ _ _ _ _ _ _)
      | (with_reducible exact ih5 _ _ _ _ _ _ _ _ _)
      | (with_reducible exact ih6 _ _ _ _ _ _ _ _)
      | (with_reducible exact ih7 _ _ _ _ _ _ _ _)
      | (with_reducible exact foghornlaw20_awake.mono _)
      | (with_reducible exact foghornref19_Encode.mono _ _ _)
      | (with_reducible exact mend_Mend.mono _ _ _ _)
      | (with_reducible exact mend_Within.mono _ _ _ _ _)
      | (with_reducible exact reed_Whole.mono _ _ _)
      | (with_reducible exact LeO.refl _)
      | (with_reducible exact LeO.none _)
      | (with_reducible refine LeO.ite ?_ ?_)
      | (with_reducible refine LeO.bind ?_ (fun _ => ?_))
      | exact ih0 _ _ _ _ _ _ _ _ _ _
      | exact ih1 _ _ _ _ _ _ _ _
      | exact ih2 _ _ _ _ _ _ _ _ _ _
      | exact ih3 _ _ _ _ _ _
      | exact ih4 _ _ _ _ _ _ _
      | exact ih5 _ _ _ _ _ _ _ _ _
      | exact ih6 _ _ _ _ _ _ _ _
      | exact ih7 _ _ _ _ _ _ _ _
      | exact foghornlaw20_awake.mono _
      | exact foghornref19_Encode.mono _ _ _
      | exact mend_Mend.mono _ _ _ _
      | exact mend_Within.mono _ _ _ _ _
      | exact reed_Whole.mono _ _ _
      | exact LeO.none _
      | refine LeO.ite ?_ ?_
      | refine LeO.bind ?_ (fun _ => ?_)
    · intro y0 y1 y2 y3 y4 y5
      unfold foghornlaw20_MendNever.j4
      repeat' first
      | (with_reducible exact ih0 _ _ _ _ _ _ _ _ _ _)
      | (with_reducible exact ih1 _ _ _ _ _ _ _ _)
      | (with_reducible exact ih2 _ _ _ _ _ _ _ _ _ _)
      | (with_reducible exact ih3 _ _ _ _ _ _)
      | (with_reducible exact ih4 _ _ _ _ _ _ _)
      | (with_reducible exact ih5 _ _ _ _ _ _ _ _ _)
      | (with_reducible exact ih6 _ _ _ _ _ _ _ _)
      | (with_reducible exact ih7 _ _ _ _ _ _ _ _)
      | (with_reducible exact foghornlaw20_awake.mono _)
      | (with_reducible exact foghornref19_Encode.mono _ _ _)
      | (with_reducible exact mend_Mend.mono _ _ _ _)
      | (with_reducible exact mend_Within.mono _ _ _ _ _)
      | (with_reducible exact reed_Whole.mono _ _ _)
      | (with_reducible exact LeO.refl _)
      | (with_reducible exact LeO.none _)
      | (with_reducible refine LeO.ite ?_ ?_)
      | (with_reducible refine LeO.bind ?_ (fun _ => ?_))
      | exact ih0 _ _ _ _ _ _ _ _ _ _
      | exact ih1 _ _ _ _ _ _ _ _
      | exact ih2 _ _ _ _ _ _ _ _ _ _
      | exact ih3 _ _ _ _ _ _
      | exact ih4 _ _ _ _ _ _ _
      | exact ih5 _ _ _ _ _ _ _ _ _
      | exact ih6 _ _ _ _ _ _ _ _
      | exact ih7 _ _ _ _ _ _ _ _
      | exact foghornlaw20_awake.mono _
      | exact foghornref19_Encode.mono _ _ _
      | exact mend_Mend.mono _ _ _ _
      | exact mend_Within.mono _ _ _ _ _
      | exact reed_Whole.mono _ _ _
      | exact LeO.none _
      | refine LeO.ite ?_ ?_
      | refine LeO.bind ?_ (fun _ => ?_)
    · intro y0 y1 y2 y3 y4 y5 y6
      unfold foghornlaw20_MendNever.l1
      repeat' first
      | (with_reducible exact ih0 _ _ _ _ _ _ _ _ _ _)
      | (with_reducible exact ih1 _ _ _ _ _ _ _ _)
      | (with_reducible exact ih2 _ _ _ _ _ _ _ _ _ _)
      | (with_reducible exact ih3 _ _ _ _ _ _)
      | (with_reducible exact ih4 _ _ _ _ _ _ _)
      | (with_reducible exact ih5 _ _ _ _ _ _ _ _ _)
      | (with_reducible exact ih6 _ _ _ _ _ _ _ _)
      | (with_reducible exact ih7 _ _ _ _ _ _ _ _)
      | (with_reducible exact foghornlaw20_awake.mono _)
      | (with_reducible exact foghornref19_Encode.mono _ _ _)
      | (with_reducible exact mend_Mend.mono _ _ _ _)
      | (with_reducible exact mend_Within.mono _ _ _ _ _)
      | (with_reducible exact reed_Whole.mono _ _ _)
      | (with_reducible exact LeO.refl _)
      | (with_reducible exact LeO.none _)
      | (with_reducible refine LeO.ite ?_ ?_)
      | (with_reducible refine LeO.bind ?_ (fun _ => ?_))
      | exact ih0 _ _ _ _ _ _ _ _ _ _
      | exact ih1 _ _ _ _ _ _ _ _
      | exact ih2 _ _ _ _ _ _ _ _ _ _
      | exact ih3 _ _ _ _ _ _
      | exact ih4 _ _ _ _ _ _ _
      | exact ih5 _ _ _ _ _ _ _ _ _
      | exact ih6 _ _ _ _ _ _ _ _
      | exact ih7 _ _ _ _ _ _ _ _
      | exact foghornlaw20_awake.mono _
      | exact foghornref19_Encode.mono _ _ _
      | exact mend_Mend.mono _ _ _ _
      | exact mend_Within.mono _ _ _ _ _
      | exact reed_Whole.mono _ _ _
      | exact LeO.none _
      | refine LeO.ite ?_ ?_
      | refine LeO.bind ?_ (fun _ => ?_)
    · intro y0 y1 y2 y3 y4 y5 y6 y7 y8
      unfold foghornlaw20_MendNever.l2
      repeat' first
      | (with_reducible exact ih0 _ _ _ _ _ _ _ _ _ _)
      | (with_reducible exact ih1 _ _ _ _ _ _ _ _)
      | (with_reducible exact ih2 _ _ _ _ _ _ _ _ _ _)
      | (with_reducible exact ih3 _ _ _ _ _ _)
      | (with_reducible exact ih4 _ _ _ _ _ _ _)
      | (with_reducible exact ih5 _ _ _ _ _ _ _ _ _)
      | (with_reducible exact ih6 _ _ _ _ _ _ _ _)
      | (with_reducible exact ih7 _ _ _ _ _ _ _ _)
      | (with_reducible exact foghornlaw20_awake.mono _)
      | (with_reducible exact foghornref19_Encode.mono _ _ _)
      | (with_reducible exact mend_Mend.mono _ _ _ _)
      | (with_reducible exact mend_Within.mono _ _ _ _ _)
      | (with_reducible exact reed_Whole.mono _ _ _)
      | (with_reducible exact LeO.refl _)
      | (with_reducible exact LeO.none _)
      | (with_reducible refine LeO.ite ?_ ?_)
      | (with_reducible refine LeO.bind ?_ (fun _ => ?_))
      | exact ih0 _ _ _ _ _ _ _ _ _ _
      | exact ih1 _ _ _ _ _ _ _ _
      | exact ih2 _ _ _ _ _ _ _ _ _ _
      | exact ih3 _ _ _ _ _ _
      | exact ih4 _ _ _ _ _ _ _
      | exact ih5 _ _ _ _ _ _ _ _ _
      | exact ih6 _ _ _ _ _ _ _ _
      | exact ih7 _ _ _ _ _ _ _ _
      | exact foghornlaw20_awake.mono _
      | exact foghornref19_Encode.mono _ _ _
      | exact mend_Mend.mono _ _ _ _
      | exact mend_Within.mono _ _ _ _ _
      | exact reed_Whole.mono _ _ _
      | exact LeO.none _
      | refine LeO.ite ?_ ?_
      | refine LeO.bind ?_ (fun _ => ?_)
    · intro y0 y1 y2 y3 y4 y5 y6 y7
      unfold foghornlaw20_MendNever.j7
      repeat' first
      | (with_reducible exact ih0 _ _ _ _ _ _ _ _ _ _)
      | (with_reducible exact ih1 _ _ _ _ _ _ _ _)
      | (with_reducible exact ih2 _ _ _ _ _ _ _ _ _ _)
      | (with_reducible exact ih3 _ _ _ _ _ _)
      | (with_reducible exact ih4 _ _ _ _ _ _ _)
      | (with_reducible exact ih5 _ _ _ _ _ _ _ _ _)
      | (with_reducible exact ih6 _ _ _ _ _ _ _ _)
      | (with_reducible exact ih7 _ _ _ _ _ _ _ _)
      | (with_reducible exact foghornlaw20_awake.mono _)
      | (with_reducible exact foghornref19_Encode.mono _ _ _)
      | (with_reducible exact mend_Mend.mono _ _ _ _)
      | (with_reducible exact mend_Within.mono _ _ _ _ _)
      | (with_reducible exact reed_Whole.mono _ _ _)
      | (with_reducible exact LeO.refl _)
      | (with_reducible exact LeO.none _)
      | (with_reducible refine LeO.ite ?_ ?_)
      | (with_reducible refine LeO.bind ?_ (fun _ => ?_))
      | exact ih0 _ _ _ _ _ _ _ _ _ _
      | exact ih1 _ _ _ _ _ _ _ _
      | exact ih2 _ _ _ _ _ _ _ _ _ _
      | exact ih3 _ _ _ _ _ _
      | exact ih4 _ _ _ _ _ _ _
      | exact ih5 _ _ _ _ _ _ _ _ _
      | exact ih6 _ _ _ _ _ _ _ _
      | exact ih7 _ _ _ _ _ _ _ _
      | exact foghornlaw20_awake.mono _
      | exact foghornref19_Encode.mono _ _ _
      | exact mend_Mend.mono _ _ _ _
      | exact mend_Within.mono _ _ _ _ _
      | exact reed_Whole.mono _ _ _
      | exact LeO.none _
      | refine LeO.ite ?_ ?_
      | refine LeO.bind ?_ (fun _ => ?_)
    · intro y0 y1 y2 y3 y4 y5 y6 y7
      unfold foghornlaw20_MendNever.l0
      repeat' first
      | (with_reducible exact ih0 _ _ _ _ _ _ _ _ _ _)
      | (with_reducible exact ih1 _ _ _ _ _ _ _ _)
      | (with_reducible exact ih2 _ _ _ _ _ _ _ _ _ _)
      | (with_reducible exact ih3 _ _ _ _ _ _)
      | (with_reducible exact ih4 _ _ _ _ _ _ _)
      | (with_reducible exact ih5 _ _ _ _ _ _ _ _ _)
      | (with_reducible exact ih6 _ _ _ _ _ _ _ _)
      | (with_reducible exact ih7 _ _ _ _ _ _ _ _)
      | (with_reducible exact foghornlaw20_awake.mono _)
      | (with_reducible exact foghornref19_Encode.mono _ _ _)
      | (with_reducible exact mend_Mend.mono _ _ _ _)
      | (with_reducible exact mend_Within.mono _ _ _ _ _)
      | (with_reducible exact reed_Whole.mono _ _ _)
      | (with_reducible exact LeO.refl _)
      | (with_reducible exact LeO.none _)
      | (with_reducible refine LeO.ite ?_ ?_)
      | (with_reducible refine LeO.bind ?_ (fun _ => ?_))
      | exact ih0 _ _ _ _ _ _ _ _ _ _
      | exact ih1 _ _ _ _ _ _ _ _
      | exact ih2 _ _ _ _ _ _ _ _ _ _
      | exact ih3 _ _ _ _ _ _
      | exact ih4 _ _ _ _ _ _ _
      | exact ih5 _ _ _ _ _ _ _ _ _
      | exact ih6 _ _ _ _ _ _ _ _
      | exact ih7 _ _ _ _ _ _ _ _
      | exact foghornlaw20_awake.mono _
      | exact foghornref19_Encode.mono _ _ _
      | exact mend_Mend.mono _ _ _ _
      | exact mend_Within.mono _ _ _ _ _
      | exact reed_Whole.mono _ _ _
      | exact LeO.none _
      | refine LeO.ite ?_ ?_
      | refine LeO.bind ?_ (fun _ => ?_)
theorem foghornlaw20_MendNever.mono : ∀ a0 a1 a2 a3 k, LeO (foghornlaw20_MendNever.f k a0 a1 a2 a3) (foghornlaw20_MendNever.f (k + 1) a0 a1 a2 a3) := by
  intro a0 a1 a2 a3 k
  obtain ⟨ih0, ih1, ih2, ih3, ih4, ih5, ih6, ih7⟩ := foghornlaw20_MendNever.mono_l k
  unfold foghornlaw20_MendNever.f
  repeat' first
      | (with_reducible exact ih0 _ _ _ _ _ _ _ _ _ _)
      | (with_reducible exact ih1 _ _ _ _ _ _ _ _)
      | (with_reducible exact ih2 _ _ _ _ _ _ _ _ _ _)
      | (with_reducible exact ih3 _ _ _ _ _ _)
      | (with_reducible exact ih4 _ _ _ _ _ _ _)
      | (with_reducible exact ih5 _ _ _ _ _ _ _ _ _)
      | (with_reducible exact ih6 _ _ _ _ _ _ _ _)
      | (with_reducible exact ih7 _ _ _ _ _ _ _ _)
      | (with_reducible exact foghornlaw20_awake.mono _)
      | (with_reducible exact foghornref19_Encode.mono _ _ _)
      | (with_reducible exact mend_Mend.mono _ _ _ _)
      | (with_reducible exact mend_Within.mono _ _ _ _ _)
      | (with_reducible exact reed_Whole.mono _ _ _)
      | (with_reducible exact LeO.refl _)
      | (with_reducible exact LeO.none _)
      | (with_reducible refine LeO.ite ?_ ?_)
      | (with_reducible refine LeO.bind ?_ (fun _ => ?_))
      | exact ih0 _ _ _ _ _ _ _ _ _ _
      | exact ih1 _ _ _ _ _ _ _ _
      | exact ih2 _ _ _ _ _ _ _ _ _ _
      | exact ih3 _ _ _ _ _ _
      | exact ih4 _ _ _ _ _ _ _
      | exact ih5 _ _ _ _ _ _ _ _ _
      | exact ih6 _ _ _ _ _ _ _ _
      | exact ih7 _ _ _ _ _ _ _ _
      | exact foghornlaw20_awake.mono _
      | exact foghornref19_Encode.mono _ _ _
      | exact mend_Mend.mono _ _ _ _
      | exact mend_Within.mono _ _ _ _ _
      | exact reed_Whole.mono _ _ _
      | exact LeO.none _
      | refine LeO.ite ?_ ?_
      | refine LeO.bind ?_ (fun _ => ?_)
set_option maxHeartbeats 8000000 in
set_option maxRecDepth 100000 in
theorem foghornlaw20_MendNever.calls (k : Nat) (a0 : ByteArray) (a1 : Int) (A2 : Option Addr) (c2 : Nat) (l2 : List Int) (a3 : ByteArray) (r : Bool) (w : World) (hr2 : Kd.C (Kd.int .i64) w A2 l2.length l2) (hc2 : l2.length ≤ c2) (h : foghornlaw20_MendNever.f k a0 a1 l2 a3 = some r) :
    Calls Try.prog 4 #[.string a0, .int .i64 a1, .slice A2 l2.length c2, .string a3] w fun e w' => e = .returned (.bool r) ∧ Below w.heap.size w w' := by
  have hu31 := Try.underlying31
  have HR2 := Aside0.mk hr2
  have HC2 := Aside0.mk hc2
  clear hr2 hc2
  have HB := Aside0.mk (Below.refl w.heap.size w)
  have H : ((foghornlaw20_awake.f k).bind fun t302 => (if t302 = true then ((mend_Mend.f k a0 a1 l2).bind fun bt303 => (if bt303.2.2.2 = 1 then (if bt303.1.toList = ([] : List UInt8) then (some ((wrap64 ((bt303.2.1.length : Int) + (bt303.2.2.1.length : Int))) == 0)) else (some false)) else (if (a3.size : Int) > 0 then (foghornlaw20_MendNever.j0 k a0 a1 l2 a3 bt303.2.2.2 (⟨#[]⟩ : ByteArray) (decide ((wrap64 ((a0.size : Int) - a1)) > 0)) bt303.1 bt303.2.1 bt303.2.2.1) else (foghornlaw20_MendNever.j0 k a0 a1 l2 a3 bt303.2.2.2 (⟨#[]⟩ : ByteArray) false bt303.1 bt303.2.1 bt303.2.2.1)))) else (some false))) = some r := h
  clear h
  replace H := Option.bind_eq_some_iff.mp H
  obtain ⟨t302, A50, H⟩ := H
  replace H : (if t302 = true then ((mend_Mend.f k a0 a1 l2).bind fun bt303 => (if bt303.2.2.2 = 1 then (if bt303.1.toList = ([] : List UInt8) then (some ((wrap64 ((bt303.2.1.length : Int) + (bt303.2.2.1.length : Int))) == 0)) else (some false)) else (if (a3.size : Int) > 0 then (foghornlaw20_MendNever.j0 k a0 a1 l2 a3 bt303.2.2.2 (⟨#[]⟩ : ByteArray) (decide ((wrap64 ((a0.size : Int) - a1)) > 0)) bt303.1 bt303.2.1 bt303.2.2.1) else (foghornlaw20_MendNever.j0 k a0 a1 l2 a3 bt303.2.2.2 (⟨#[]⟩ : ByteArray) false bt303.1 bt303.2.1 bt303.2.2.1)))) else (some false)) = some r := H
  have A5 := Aside0.mk A50
  clear A50
  by_cases c6 : t302 = true
  · subst c6
    have H1 : ((mend_Mend.f k a0 a1 l2).bind fun bt303 => (if bt303.2.2.2 = 1 then (if bt303.1.toList = ([] : List UInt8) then (some ((wrap64 ((bt303.2.1.length : Int) + (bt303.2.2.1.length : Int))) == 0)) else (some false)) else (if (a3.size : Int) > 0 then (foghornlaw20_MendNever.j0 k a0 a1 l2 a3 bt303.2.2.2 (⟨#[]⟩ : ByteArray) (decide ((wrap64 ((a0.size : Int) - a1)) > 0)) bt303.1 bt303.2.1 bt303.2.2.1) else (foghornlaw20_MendNever.j0 k a0 a1 l2 a3 bt303.2.2.2 (⟨#[]⟩ : ByteArray) false bt303.1 bt303.2.1 bt303.2.2.1)))) = some r := by rw [if_pos rfl] at H; exact H
    clear H
    have H := H1
    clear H1
    replace H := Option.bind_eq_some_iff.mp H
    obtain ⟨⟨t303, t304, t307, t310⟩, A70, H⟩ := H
    replace H : (if t310 = 1 then (if t303.toList = ([] : List UInt8) then (some ((wrap64 ((t304.length : Int) + (t307.length : Int))) == 0)) else (some false)) else (if (a3.size : Int) > 0 then (foghornlaw20_MendNever.j0 k a0 a1 l2 a3 t310 (⟨#[]⟩ : ByteArray) (decide ((wrap64 ((a0.size : Int) - a1)) > 0)) t303 t304 t307) else (foghornlaw20_MendNever.j0 k a0 a1 l2 a3 t310 (⟨#[]⟩ : ByteArray) false t303 t304 t307))) = some r := H
    have A7 := Aside0.mk A70
    clear A70
    by_cases c8 : t310 = 1
    · rw [if_pos c8] at H
      have c8b0 : (t310 == 1) = true := beq_iff_eq.mpr c8
      have c8b1 : (t310 != 1) = false := bne_eq_false_iff_eq.mpr c8
      clear c8
      by_cases c9 : t303.toList = ([] : List UInt8)
      · rw [if_pos c9] at H
        have c9b0 : (t303.toList == ([] : List UInt8)) = true := beq_iff_eq.mpr c9
        have c9b1 : (t303.toList != ([] : List UInt8)) = false := bne_eq_false_iff_eq.mpr c9
        clear c9
        obtain rfl := Option.some.inj H
        go_enter Try.func4, Try.ntmps4
        go_wp2_with (first | (go_at_call 9; (with_reducible refine (foghornlaw20_awake.calls k  true _ A5.out).mono ?_); rintro e w10 ⟨rfl, hb⟩; have n0_ := Aside0.mk (below_step (by repeat (first | (with_reducible first | exact HB.out | apply below_alloc | apply pw_below_drewN | apply below_drew1) | exact HB.out)) hb); clear HB; have HB := n0_; clear n0_; (try clear hb); (try clear hb2); (try clear hk); (try clear hi)) | (go_at_call 11; (with_reducible refine (mend_Mend.calls k a0 a1 _ _ l2 t303 t304 t307 t310 _ ?side1 ?side2 A7.out).mono ?_); (case side1 => repeat (first | exact (Kd.C_below HR2.out HB.out) | (with_reducible refine Kd.C_alloc ?_ _) | (with_reducible refine Kd.C_drewN ?_ _) | (with_reducible refine Kd.C_drew ?_))); (case side2 => exact HC2.out); rintro e w11 ⟨v305, v308, rfl, ho0, ho1, hb⟩; have n0_ := Aside0.mk (Kd.R_lower ho0 (below_size (by repeat (first | (with_reducible first | exact HB.out | apply below_alloc | apply pw_below_drewN | apply below_drew1) | exact HB.out)))); have n1_ := Aside0.mk (Kd.R_lower ho1 (below_size (by repeat (first | (with_reducible first | exact HB.out | apply below_alloc | apply pw_below_drewN | apply below_drew1) | exact HB.out)))); have n2_ := Aside0.mk (below_step (by repeat (first | (with_reducible first | exact HB.out | apply below_alloc | apply pw_below_drewN | apply below_drew1) | exact HB.out)) hb); clear HB; have HO306 := n0_; have HO309 := n1_; have HB := n2_; clear n0_ n1_ n2_; (try clear hb); (try clear hb2); (try clear hk); (try clear hi); (try clear ho0); (try clear ho1)) | ((with_reducible refine gate_dst (N := 9) rfl ?_); refine box_event ?hg (N := 9) ?hd (cs := #[.string (⟨#[]⟩ : ByteArray), .slice none 0 0, .slice none 0 0]) (t := 31) ?hr ?_; (case hd => rfl); (case hg => rfl); (case hr => first | (go_simp; done) | (go_simp; rfl)); intro gb311 hg w12 hbox hb; have n0_ := Aside0.mk (Kd.R_below (by (with_reducible repeat (first | apply Kd.R_alloc | apply Kd.R_drewN | apply Kd.R_drew)); exact HO306.out) hb); have n1_ := Aside0.mk (Kd.R_below (by (with_reducible repeat (first | apply Kd.R_alloc | apply Kd.R_drewN | apply Kd.R_drew)); exact HO309.out) hb); have n2_ := Aside0.mk (below_step (by repeat (first | (with_reducible first | exact HB.out | apply below_alloc | apply pw_below_drewN | apply below_drew1) | exact HB.out)) hb); have n3_ := Aside0.mk (hbox); have n4_ := Aside0.mk ((by rw [hg]; exact (below_size (by repeat (first | (with_reducible first | exact HB.out | apply below_alloc | apply pw_below_drewN | apply below_drew1) | exact HB.out))) : w.heap.size ≤ gb311)); have n5_ := Aside0.mk ((by rw [hg]; exact (below_size (by repeat (first | (with_reducible first | exact HB.out | apply below_alloc | apply pw_below_drewN | apply below_drew1) | exact HB.out))) : w.heap.size ≤ gb311)); clear HO306; clear HO309; clear HB; have HO306 := n0_; have HO309 := n1_; have HB := n2_; have BK311 := n3_; have GW311 := n4_; have GE311 := n5_; clear n0_ n1_ n2_ n3_ n4_ n5_; clear hb hbox hg; have hcz13_0 : w12.cell? ⟨gb311, 0, none⟩ = some (.string (⟨#[]⟩ : ByteArray)) := (blk_cell BK311.out 0).trans rfl; have hcz13_1 : w12.cell? ⟨gb311, 1, none⟩ = some (.slice none 0 0) := (blk_cell BK311.out 1).trans rfl; have hcz13_2 : w12.cell? ⟨gb311, 2, none⟩ = some (.slice none 0 0) := (blk_cell BK311.out 2).trans rfl; have hfz13_0 := blk_frozen BK311.out 0; have hfz13_1 := blk_frozen BK311.out 1; have hfz13_2 := blk_frozen BK311.out 2; obtain ⟨Ao14, co14, eo14⟩ := Kd.R_slice HO306.out; subst eo14; obtain ⟨Ao15, co15, eo15⟩ := Kd.R_slice HO309.out; subst eo15))
        repeat (go_quiet (first | (go_at_call 9; (with_reducible refine (foghornlaw20_awake.calls k  true _ A5.out).mono ?_); rintro e w10 ⟨rfl, hb⟩; have n0_ := Aside0.mk (below_step (by repeat (first | (with_reducible first | exact HB.out | apply below_alloc | apply pw_below_drewN | apply below_drew1) | exact HB.out)) hb); clear HB; have HB := n0_; clear n0_; (try clear hb); (try clear hb2); (try clear hk); (try clear hi)) | (go_at_call 11; (with_reducible refine (mend_Mend.calls k a0 a1 _ _ l2 t303 t304 t307 t310 _ ?side1 ?side2 A7.out).mono ?_); (case side1 => repeat (first | exact (Kd.C_below HR2.out HB.out) | (with_reducible refine Kd.C_alloc ?_ _) | (with_reducible refine Kd.C_drewN ?_ _) | (with_reducible refine Kd.C_drew ?_))); (case side2 => exact HC2.out); rintro e w11 ⟨v305, v308, rfl, ho0, ho1, hb⟩; have n0_ := Aside0.mk (Kd.R_lower ho0 (below_size (by repeat (first | (with_reducible first | exact HB.out | apply below_alloc | apply pw_below_drewN | apply below_drew1) | exact HB.out)))); have n1_ := Aside0.mk (Kd.R_lower ho1 (below_size (by repeat (first | (with_reducible first | exact HB.out | apply below_alloc | apply pw_below_drewN | apply below_drew1) | exact HB.out)))); have n2_ := Aside0.mk (below_step (by repeat (first | (with_reducible first | exact HB.out | apply below_alloc | apply pw_below_drewN | apply below_drew1) | exact HB.out)) hb); clear HB; have HO306 := n0_; have HO309 := n1_; have HB := n2_; clear n0_ n1_ n2_; (try clear hb); (try clear hb2); (try clear hk); (try clear hi); (try clear ho0); (try clear ho1)) | ((with_reducible refine gate_dst (N := 9) rfl ?_); refine box_event ?hg (N := 9) ?hd (cs := #[.string (⟨#[]⟩ : ByteArray), .slice none 0 0, .slice none 0 0]) (t := 31) ?hr ?_; (case hd => rfl); (case hg => rfl); (case hr => first | (go_simp; done) | (go_simp; rfl)); intro gb311 hg w12 hbox hb; have n0_ := Aside0.mk (Kd.R_below (by (with_reducible repeat (first | apply Kd.R_alloc | apply Kd.R_drewN | apply Kd.R_drew)); exact HO306.out) hb); have n1_ := Aside0.mk (Kd.R_below (by (with_reducible repeat (first | apply Kd.R_alloc | apply Kd.R_drewN | apply Kd.R_drew)); exact HO309.out) hb); have n2_ := Aside0.mk (below_step (by repeat (first | (with_reducible first | exact HB.out | apply below_alloc | apply pw_below_drewN | apply below_drew1) | exact HB.out)) hb); have n3_ := Aside0.mk (hbox); have n4_ := Aside0.mk ((by rw [hg]; exact (below_size (by repeat (first | (with_reducible first | exact HB.out | apply below_alloc | apply pw_below_drewN | apply below_drew1) | exact HB.out))) : w.heap.size ≤ gb311)); have n5_ := Aside0.mk ((by rw [hg]; exact (below_size (by repeat (first | (with_reducible first | exact HB.out | apply below_alloc | apply pw_below_drewN | apply below_drew1) | exact HB.out))) : w.heap.size ≤ gb311)); clear HO306; clear HO309; clear HB; have HO306 := n0_; have HO309 := n1_; have HB := n2_; have BK311 := n3_; have GW311 := n4_; have GE311 := n5_; clear n0_ n1_ n2_ n3_ n4_ n5_; clear hb hbox hg; have hcz13_0 : w12.cell? ⟨gb311, 0, none⟩ = some (.string (⟨#[]⟩ : ByteArray)) := (blk_cell BK311.out 0).trans rfl; have hcz13_1 : w12.cell? ⟨gb311, 1, none⟩ = some (.slice none 0 0) := (blk_cell BK311.out 1).trans rfl; have hcz13_2 : w12.cell? ⟨gb311, 2, none⟩ = some (.slice none 0 0) := (blk_cell BK311.out 2).trans rfl; have hfz13_0 := blk_frozen BK311.out 0; have hfz13_1 := blk_frozen BK311.out 1; have hfz13_2 := blk_frozen BK311.out 2; obtain ⟨Ao14, co14, eo14⟩ := Kd.R_slice HO306.out; subst eo14; obtain ⟨Ao15, co15, eo15⟩ := Kd.R_slice HO309.out; subst eo15)); try go_wp2_with (first | (go_at_call 9; (with_reducible refine (foghornlaw20_awake.calls k  true _ A5.out).mono ?_); rintro e w10 ⟨rfl, hb⟩; have n0_ := Aside0.mk (below_step (by repeat (first | (with_reducible first | exact HB.out | apply below_alloc | apply pw_below_drewN | apply below_drew1) | exact HB.out)) hb); clear HB; have HB := n0_; clear n0_; (try clear hb); (try clear hb2); (try clear hk); (try clear hi)) | (go_at_call 11; (with_reducible refine (mend_Mend.calls k a0 a1 _ _ l2 t303 t304 t307 t310 _ ?side1 ?side2 A7.out).mono ?_); (case side1 => repeat (first | exact (Kd.C_below HR2.out HB.out) | (with_reducible refine Kd.C_alloc ?_ _) | (with_reducible refine Kd.C_drewN ?_ _) | (with_reducible refine Kd.C_drew ?_))); (case side2 => exact HC2.out); rintro e w11 ⟨v305, v308, rfl, ho0, ho1, hb⟩; have n0_ := Aside0.mk (Kd.R_lower ho0 (below_size (by repeat (first | (with_reducible first | exact HB.out | apply below_alloc | apply pw_below_drewN | apply below_drew1) | exact HB.out)))); have n1_ := Aside0.mk (Kd.R_lower ho1 (below_size (by repeat (first | (with_reducible first | exact HB.out | apply below_alloc | apply pw_below_drewN | apply below_drew1) | exact HB.out)))); have n2_ := Aside0.mk (below_step (by repeat (first | (with_reducible first | exact HB.out | apply below_alloc | apply pw_below_drewN | apply below_drew1) | exact HB.out)) hb); clear HB; have HO306 := n0_; have HO309 := n1_; have HB := n2_; clear n0_ n1_ n2_; (try clear hb); (try clear hb2); (try clear hk); (try clear hi); (try clear ho0); (try clear ho1)) | ((with_reducible refine gate_dst (N := 9) rfl ?_); refine box_event ?hg (N := 9) ?hd (cs := #[.string (⟨#[]⟩ : ByteArray), .slice none 0 0, .slice none 0 0]) (t := 31) ?hr ?_; (case hd => rfl); (case hg => rfl); (case hr => first | (go_simp; done) | (go_simp; rfl)); intro gb311 hg w12 hbox hb; have n0_ := Aside0.mk (Kd.R_below (by (with_reducible repeat (first | apply Kd.R_alloc | apply Kd.R_drewN | apply Kd.R_drew)); exact HO306.out) hb); have n1_ := Aside0.mk (Kd.R_below (by (with_reducible repeat (first | apply Kd.R_alloc | apply Kd.R_drewN | apply Kd.R_drew)); exact HO309.out) hb); have n2_ := Aside0.mk (below_step (by repeat (first | (with_reducible first | exact HB.out | apply below_alloc | apply pw_below_drewN | apply below_drew1) | exact HB.out)) hb); have n3_ := Aside0.mk (hbox); have n4_ := Aside0.mk ((by rw [hg]; exact (below_size (by repeat (first | (with_reducible first | exact HB.out | apply below_alloc | apply pw_below_drewN | apply below_drew1) | exact HB.out))) : w.heap.size ≤ gb311)); have n5_ := Aside0.mk ((by rw [hg]; exact (below_size (by repeat (first | (with_reducible first | exact HB.out | apply below_alloc | apply pw_below_drewN | apply below_drew1) | exact HB.out))) : w.heap.size ≤ gb311)); clear HO306; clear HO309; clear HB; have HO306 := n0_; have HO309 := n1_; have HB := n2_; have BK311 := n3_; have GW311 := n4_; have GE311 := n5_; clear n0_ n1_ n2_ n3_ n4_ n5_; clear hb hbox hg; have hcz13_0 : w12.cell? ⟨gb311, 0, none⟩ = some (.string (⟨#[]⟩ : ByteArray)) := (blk_cell BK311.out 0).trans rfl; have hcz13_1 : w12.cell? ⟨gb311, 1, none⟩ = some (.slice none 0 0) := (blk_cell BK311.out 1).trans rfl; have hcz13_2 : w12.cell? ⟨gb311, 2, none⟩ = some (.slice none 0 0) := (blk_cell BK311.out 2).trans rfl; have hfz13_0 := blk_frozen BK311.out 0; have hfz13_1 := blk_frozen BK311.out 1; have hfz13_2 := blk_frozen BK311.out 2; obtain ⟨Ao14, co14, eo14⟩ := Kd.R_slice HO306.out; subst eo14; obtain ⟨Ao15, co15, eo15⟩ := Kd.R_slice HO309.out; subst eo15)))
        go_ret
        exact ⟨by first | rfl | (simp [errW_none, errW_some] <;> rfl) | (simp [*, errW_none, errW_some] <;> rfl), by repeat (first | (with_reducible first | exact HB.out | apply below_alloc | apply pw_below_drewN | apply below_drew1 | refine below_set ?_ GE311.out) | exact HB.out)⟩
      · rw [if_neg c9] at H
        have c9b0 : (t303.toList == ([] : List UInt8)) = false := beq_eq_false_iff_ne.mpr c9
        have c9b1 : (t303.toList != ([] : List UInt8)) = true := bne_iff_ne.mpr c9
        obtain rfl := Option.some.inj H
        go_enter Try.func4, Try.ntmps4
        go_wp2_with (first | (go_at_call 9; (with_reducible refine (foghornlaw20_awake.calls k  true _ A5.out).mono ?_); rintro e w16 ⟨rfl, hb⟩; have n0_ := Aside0.mk (below_step (by repeat (first | (with_reducible first | exact HB.out | apply below_alloc | apply pw_below_drewN | apply below_drew1) | exact HB.out)) hb); clear HB; have HB := n0_; clear n0_; (try clear hb); (try clear hb2); (try clear hk); (try clear hi)) | (go_at_call 11; (with_reducible refine (mend_Mend.calls k a0 a1 _ _ l2 t303 t304 t307 t310 _ ?side1 ?side2 A7.out).mono ?_); (case side1 => repeat (first | exact (Kd.C_below HR2.out HB.out) | (with_reducible refine Kd.C_alloc ?_ _) | (with_reducible refine Kd.C_drewN ?_ _) | (with_reducible refine Kd.C_drew ?_))); (case side2 => exact HC2.out); rintro e w17 ⟨v305, v308, rfl, ho0, ho1, hb⟩; have n0_ := Aside0.mk (Kd.R_lower ho0 (below_size (by repeat (first | (with_reducible first | exact HB.out | apply below_alloc | apply pw_below_drewN | apply below_drew1) | exact HB.out)))); have n1_ := Aside0.mk (Kd.R_lower ho1 (below_size (by repeat (first | (with_reducible first | exact HB.out | apply below_alloc | apply pw_below_drewN | apply below_drew1) | exact HB.out)))); have n2_ := Aside0.mk (below_step (by repeat (first | (with_reducible first | exact HB.out | apply below_alloc | apply pw_below_drewN | apply below_drew1) | exact HB.out)) hb); clear HB; have HO306 := n0_; have HO309 := n1_; have HB := n2_; clear n0_ n1_ n2_; (try clear hb); (try clear hb2); (try clear hk); (try clear hi); (try clear ho0); (try clear ho1)) | ((with_reducible refine gate_dst (N := 9) rfl ?_); refine box_event ?hg (N := 9) ?hd (cs := #[.string (⟨#[]⟩ : ByteArray), .slice none 0 0, .slice none 0 0]) (t := 31) ?hr ?_; (case hd => rfl); (case hg => rfl); (case hr => first | (go_simp; done) | (go_simp; rfl)); intro gb311 hg w18 hbox hb; have n0_ := Aside0.mk (Kd.R_below (by (with_reducible repeat (first | apply Kd.R_alloc | apply Kd.R_drewN | apply Kd.R_drew)); exact HO306.out) hb); have n1_ := Aside0.mk (Kd.R_below (by (with_reducible repeat (first | apply Kd.R_alloc | apply Kd.R_drewN | apply Kd.R_drew)); exact HO309.out) hb); have n2_ := Aside0.mk (below_step (by repeat (first | (with_reducible first | exact HB.out | apply below_alloc | apply pw_below_drewN | apply below_drew1) | exact HB.out)) hb); have n3_ := Aside0.mk (hbox); have n4_ := Aside0.mk ((by rw [hg]; exact (below_size (by repeat (first | (with_reducible first | exact HB.out | apply below_alloc | apply pw_below_drewN | apply below_drew1) | exact HB.out))) : w.heap.size ≤ gb311)); have n5_ := Aside0.mk ((by rw [hg]; exact (below_size (by repeat (first | (with_reducible first | exact HB.out | apply below_alloc | apply pw_below_drewN | apply below_drew1) | exact HB.out))) : w.heap.size ≤ gb311)); clear HO306; clear HO309; clear HB; have HO306 := n0_; have HO309 := n1_; have HB := n2_; have BK311 := n3_; have GW311 := n4_; have GE311 := n5_; clear n0_ n1_ n2_ n3_ n4_ n5_; clear hb hbox hg; have hcz19_0 : w18.cell? ⟨gb311, 0, none⟩ = some (.string (⟨#[]⟩ : ByteArray)) := (blk_cell BK311.out 0).trans rfl; have hcz19_1 : w18.cell? ⟨gb311, 1, none⟩ = some (.slice none 0 0) := (blk_cell BK311.out 1).trans rfl; have hcz19_2 : w18.cell? ⟨gb311, 2, none⟩ = some (.slice none 0 0) := (blk_cell BK311.out 2).trans rfl; have hfz19_0 := blk_frozen BK311.out 0; have hfz19_1 := blk_frozen BK311.out 1; have hfz19_2 := blk_frozen BK311.out 2; obtain ⟨Ao20, co20, eo20⟩ := Kd.R_slice HO306.out; subst eo20; obtain ⟨Ao21, co21, eo21⟩ := Kd.R_slice HO309.out; subst eo21))
        repeat (go_quiet (first | (go_at_call 9; (with_reducible refine (foghornlaw20_awake.calls k  true _ A5.out).mono ?_); rintro e w16 ⟨rfl, hb⟩; have n0_ := Aside0.mk (below_step (by repeat (first | (with_reducible first | exact HB.out | apply below_alloc | apply pw_below_drewN | apply below_drew1) | exact HB.out)) hb); clear HB; have HB := n0_; clear n0_; (try clear hb); (try clear hb2); (try clear hk); (try clear hi)) | (go_at_call 11; (with_reducible refine (mend_Mend.calls k a0 a1 _ _ l2 t303 t304 t307 t310 _ ?side1 ?side2 A7.out).mono ?_); (case side1 => repeat (first | exact (Kd.C_below HR2.out HB.out) | (with_reducible refine Kd.C_alloc ?_ _) | (with_reducible refine Kd.C_drewN ?_ _) | (with_reducible refine Kd.C_drew ?_))); (case side2 => exact HC2.out); rintro e w17 ⟨v305, v308, rfl, ho0, ho1, hb⟩; have n0_ := Aside0.mk (Kd.R_lower ho0 (below_size (by repeat (first | (with_reducible first | exact HB.out | apply below_alloc | apply pw_below_drewN | apply below_drew1) | exact HB.out)))); have n1_ := Aside0.mk (Kd.R_lower ho1 (below_size (by repeat (first | (with_reducible first | exact HB.out | apply below_alloc | apply pw_below_drewN | apply below_drew1) | exact HB.out)))); have n2_ := Aside0.mk (below_step (by repeat (first | (with_reducible first | exact HB.out | apply below_alloc | apply pw_below_drewN | apply below_drew1) | exact HB.out)) hb); clear HB; have HO306 := n0_; have HO309 := n1_; have HB := n2_; clear n0_ n1_ n2_; (try clear hb); (try clear hb2); (try clear hk); (try clear hi); (try clear ho0); (try clear ho1)) | ((with_reducible refine gate_dst (N := 9) rfl ?_); refine box_event ?hg (N := 9) ?hd (cs := #[.string (⟨#[]⟩ : ByteArray), .slice none 0 0, .slice none 0 0]) (t := 31) ?hr ?_; (case hd => rfl); (case hg => rfl); (case hr => first | (go_simp; done) | (go_simp; rfl)); intro gb311 hg w18 hbox hb; have n0_ := Aside0.mk (Kd.R_below (by (with_reducible repeat (first | apply Kd.R_alloc | apply Kd.R_drewN | apply Kd.R_drew)); exact HO306.out) hb); have n1_ := Aside0.mk (Kd.R_below (by (with_reducible repeat (first | apply Kd.R_alloc | apply Kd.R_drewN | apply Kd.R_drew)); exact HO309.out) hb); have n2_ := Aside0.mk (below_step (by repeat (first | (with_reducible first | exact HB.out | apply below_alloc | apply pw_below_drewN | apply below_drew1) | exact HB.out)) hb); have n3_ := Aside0.mk (hbox); have n4_ := Aside0.mk ((by rw [hg]; exact (below_size (by repeat (first | (with_reducible first | exact HB.out | apply below_alloc | apply pw_below_drewN | apply below_drew1) | exact HB.out))) : w.heap.size ≤ gb311)); have n5_ := Aside0.mk ((by rw [hg]; exact (below_size (by repeat (first | (with_reducible first | exact HB.out | apply below_alloc | apply pw_below_drewN | apply below_drew1) | exact HB.out))) : w.heap.size ≤ gb311)); clear HO306; clear HO309; clear HB; have HO306 := n0_; have HO309 := n1_; have HB := n2_; have BK311 := n3_; have GW311 := n4_; have GE311 := n5_; clear n0_ n1_ n2_ n3_ n4_ n5_; clear hb hbox hg; have hcz19_0 : w18.cell? ⟨gb311, 0, none⟩ = some (.string (⟨#[]⟩ : ByteArray)) := (blk_cell BK311.out 0).trans rfl; have hcz19_1 : w18.cell? ⟨gb311, 1, none⟩ = some (.slice none 0 0) := (blk_cell BK311.out 1).trans rfl; have hcz19_2 : w18.cell? ⟨gb311, 2, none⟩ = some (.slice none 0 0) := (blk_cell BK311.out 2).trans rfl; have hfz19_0 := blk_frozen BK311.out 0; have hfz19_1 := blk_frozen BK311.out 1; have hfz19_2 := blk_frozen BK311.out 2; obtain ⟨Ao20, co20, eo20⟩ := Kd.R_slice HO306.out; subst eo20; obtain ⟨Ao21, co21, eo21⟩ := Kd.R_slice HO309.out; subst eo21)); try go_wp2_with (first | (go_at_call 9; (with_reducible refine (foghornlaw20_awake.calls k  true _ A5.out).mono ?_); rintro e w16 ⟨rfl, hb⟩; have n0_ := Aside0.mk (below_step (by repeat (first | (with_reducible first | exact HB.out | apply below_alloc | apply pw_below_drewN | apply below_drew1) | exact HB.out)) hb); clear HB; have HB := n0_; clear n0_; (try clear hb); (try clear hb2); (try clear hk); (try clear hi)) | (go_at_call 11; (with_reducible refine (mend_Mend.calls k a0 a1 _ _ l2 t303 t304 t307 t310 _ ?side1 ?side2 A7.out).mono ?_); (case side1 => repeat (first | exact (Kd.C_below HR2.out HB.out) | (with_reducible refine Kd.C_alloc ?_ _) | (with_reducible refine Kd.C_drewN ?_ _) | (with_reducible refine Kd.C_drew ?_))); (case side2 => exact HC2.out); rintro e w17 ⟨v305, v308, rfl, ho0, ho1, hb⟩; have n0_ := Aside0.mk (Kd.R_lower ho0 (below_size (by repeat (first | (with_reducible first | exact HB.out | apply below_alloc | apply pw_below_drewN | apply below_drew1) | exact HB.out)))); have n1_ := Aside0.mk (Kd.R_lower ho1 (below_size (by repeat (first | (with_reducible first | exact HB.out | apply below_alloc | apply pw_below_drewN | apply below_drew1) | exact HB.out)))); have n2_ := Aside0.mk (below_step (by repeat (first | (with_reducible first | exact HB.out | apply below_alloc | apply pw_below_drewN | apply below_drew1) | exact HB.out)) hb); clear HB; have HO306 := n0_; have HO309 := n1_; have HB := n2_; clear n0_ n1_ n2_; (try clear hb); (try clear hb2); (try clear hk); (try clear hi); (try clear ho0); (try clear ho1)) | ((with_reducible refine gate_dst (N := 9) rfl ?_); refine box_event ?hg (N := 9) ?hd (cs := #[.string (⟨#[]⟩ : ByteArray), .slice none 0 0, .slice none 0 0]) (t := 31) ?hr ?_; (case hd => rfl); (case hg => rfl); (case hr => first | (go_simp; done) | (go_simp; rfl)); intro gb311 hg w18 hbox hb; have n0_ := Aside0.mk (Kd.R_below (by (with_reducible repeat (first | apply Kd.R_alloc | apply Kd.R_drewN | apply Kd.R_drew)); exact HO306.out) hb); have n1_ := Aside0.mk (Kd.R_below (by (with_reducible repeat (first | apply Kd.R_alloc | apply Kd.R_drewN | apply Kd.R_drew)); exact HO309.out) hb); have n2_ := Aside0.mk (below_step (by repeat (first | (with_reducible first | exact HB.out | apply below_alloc | apply pw_below_drewN | apply below_drew1) | exact HB.out)) hb); have n3_ := Aside0.mk (hbox); have n4_ := Aside0.mk ((by rw [hg]; exact (below_size (by repeat (first | (with_reducible first | exact HB.out | apply below_alloc | apply pw_below_drewN | apply below_drew1) | exact HB.out))) : w.heap.size ≤ gb311)); have n5_ := Aside0.mk ((by rw [hg]; exact (below_size (by repeat (first | (with_reducible first | exact HB.out | apply below_alloc | apply pw_below_drewN | apply below_drew1) | exact HB.out))) : w.heap.size ≤ gb311)); clear HO306; clear HO309; clear HB; have HO306 := n0_; have HO309 := n1_; have HB := n2_; have BK311 := n3_; have GW311 := n4_; have GE311 := n5_; clear n0_ n1_ n2_ n3_ n4_ n5_; clear hb hbox hg; have hcz19_0 : w18.cell? ⟨gb311, 0, none⟩ = some (.string (⟨#[]⟩ : ByteArray)) := (blk_cell BK311.out 0).trans rfl; have hcz19_1 : w18.cell? ⟨gb311, 1, none⟩ = some (.slice none 0 0) := (blk_cell BK311.out 1).trans rfl; have hcz19_2 : w18.cell? ⟨gb311, 2, none⟩ = some (.slice none 0 0) := (blk_cell BK311.out 2).trans rfl; have hfz19_0 := blk_frozen BK311.out 0; have hfz19_1 := blk_frozen BK311.out 1; have hfz19_2 := blk_frozen BK311.out 2; obtain ⟨Ao20, co20, eo20⟩ := Kd.R_slice HO306.out; subst eo20; obtain ⟨Ao21, co21, eo21⟩ := Kd.R_slice HO309.out; subst eo21)))
        go_ret
        exact ⟨by first | rfl | (simp [errW_none, errW_some] <;> rfl) | (simp [*, errW_none, errW_some] <;> rfl), by repeat (first | (with_reducible first | exact HB.out | apply below_alloc | apply pw_below_drewN | apply below_drew1 | refine below_set ?_ GE311.out) | exact HB.out)⟩
    · rw [if_neg c8] at H
      have c8b0 : (t310 == 1) = false := beq_eq_false_iff_ne.mpr c8
      have c8b1 : (t310 != 1) = true := bne_iff_ne.mpr c8
      have HC22 := Aside0.mk H
      clear H
      go_enter Try.func4, Try.ntmps4
      go_upto_region 7 with (first | (go_at_call 9; (with_reducible refine (foghornlaw20_awake.calls k  true _ A5.out).mono ?_); rintro e w23 ⟨rfl, hb⟩; have n0_ := Aside0.mk (below_step (by repeat (first | (with_reducible first | exact HB.out | apply below_alloc | apply pw_below_drewN | apply below_drew1) | exact HB.out)) hb); clear HB; have HB := n0_; clear n0_; (try clear hb); (try clear hb2); (try clear hk); (try clear hi)) | (go_at_call 11; (with_reducible refine (mend_Mend.calls k a0 a1 _ _ l2 t303 t304 t307 t310 _ ?side1 ?side2 A7.out).mono ?_); (case side1 => repeat (first | exact (Kd.C_below HR2.out HB.out) | (with_reducible refine Kd.C_alloc ?_ _) | (with_reducible refine Kd.C_drewN ?_ _) | (with_reducible refine Kd.C_drew ?_))); (case side2 => exact HC2.out); rintro e w24 ⟨v305, v308, rfl, ho0, ho1, hb⟩; have n0_ := Aside0.mk (Kd.R_lower ho0 (below_size (by repeat (first | (with_reducible first | exact HB.out | apply below_alloc | apply pw_below_drewN | apply below_drew1) | exact HB.out)))); have n1_ := Aside0.mk (Kd.R_lower ho1 (below_size (by repeat (first | (with_reducible first | exact HB.out | apply below_alloc | apply pw_below_drewN | apply below_drew1) | exact HB.out)))); have n2_ := Aside0.mk (below_step (by repeat (first | (with_reducible first | exact HB.out | apply below_alloc | apply pw_below_drewN | apply below_drew1) | exact HB.out)) hb); clear HB; have HO306 := n0_; have HO309 := n1_; have HB := n2_; clear n0_ n1_ n2_; (try clear hb); (try clear hb2); (try clear hk); (try clear hi); (try clear ho0); (try clear ho1)) | ((with_reducible refine gate_dst (N := 9) rfl ?_); refine box_event ?hg (N := 9) ?hd (cs := #[.string (⟨#[]⟩ : ByteArray), .slice none 0 0, .slice none 0 0]) (t := 31) ?hr ?_; (case hd => rfl); (case hg => rfl); (case hr => first | (go_simp; done) | (go_simp; rfl)); intro gb311 hg w25 hbox hb; have n0_ := Aside0.mk (Kd.R_below (by (with_reducible repeat (first | apply Kd.R_alloc | apply Kd.R_drewN | apply Kd.R_drew)); exact HO306.out) hb); have n1_ := Aside0.mk (Kd.R_below (by (with_reducible repeat (first | apply Kd.R_alloc | apply Kd.R_drewN | apply Kd.R_drew)); exact HO309.out) hb); have n2_ := Aside0.mk (below_step (by repeat (first | (with_reducible first | exact HB.out | apply below_alloc | apply pw_below_drewN | apply below_drew1) | exact HB.out)) hb); have n3_ := Aside0.mk (hbox); have n4_ := Aside0.mk ((by rw [hg]; exact (below_size (by repeat (first | (with_reducible first | exact HB.out | apply below_alloc | apply pw_below_drewN | apply below_drew1) | exact HB.out))) : w.heap.size ≤ gb311)); have n5_ := Aside0.mk ((by rw [hg]; exact (below_size (by repeat (first | (with_reducible first | exact HB.out | apply below_alloc | apply pw_below_drewN | apply below_drew1) | exact HB.out))) : w.heap.size ≤ gb311)); clear HO306; clear HO309; clear HB; have HO306 := n0_; have HO309 := n1_; have HB := n2_; have BK311 := n3_; have GW311 := n4_; have GE311 := n5_; clear n0_ n1_ n2_ n3_ n4_ n5_; clear hb hbox hg; have hcz26_0 : w25.cell? ⟨gb311, 0, none⟩ = some (.string (⟨#[]⟩ : ByteArray)) := (blk_cell BK311.out 0).trans rfl; have hcz26_1 : w25.cell? ⟨gb311, 1, none⟩ = some (.slice none 0 0) := (blk_cell BK311.out 1).trans rfl; have hcz26_2 : w25.cell? ⟨gb311, 2, none⟩ = some (.slice none 0 0) := (blk_cell BK311.out 2).trans rfl; have hfz26_0 := blk_frozen BK311.out 0; have hfz26_1 := blk_frozen BK311.out 1; have hfz26_2 := blk_frozen BK311.out 2; obtain ⟨Ao27, co27, eo27⟩ := Kd.R_slice HO306.out; subst eo27; obtain ⟨Ao28, co28, eo28⟩ := Kd.R_slice HO309.out; subst eo28))
      repeat (go_quiet (first | (go_at_call 9; (with_reducible refine (foghornlaw20_awake.calls k  true _ A5.out).mono ?_); rintro e w23 ⟨rfl, hb⟩; have n0_ := Aside0.mk (below_step (by repeat (first | (with_reducible first | exact HB.out | apply below_alloc | apply pw_below_drewN | apply below_drew1) | exact HB.out)) hb); clear HB; have HB := n0_; clear n0_; (try clear hb); (try clear hb2); (try clear hk); (try clear hi)) | (go_at_call 11; (with_reducible refine (mend_Mend.calls k a0 a1 _ _ l2 t303 t304 t307 t310 _ ?side1 ?side2 A7.out).mono ?_); (case side1 => repeat (first | exact (Kd.C_below HR2.out HB.out) | (with_reducible refine Kd.C_alloc ?_ _) | (with_reducible refine Kd.C_drewN ?_ _) | (with_reducible refine Kd.C_drew ?_))); (case side2 => exact HC2.out); rintro e w24 ⟨v305, v308, rfl, ho0, ho1, hb⟩; have n0_ := Aside0.mk (Kd.R_lower ho0 (below_size (by repeat (first | (with_reducible first | exact HB.out | apply below_alloc | apply pw_below_drewN | apply below_drew1) | exact HB.out)))); have n1_ := Aside0.mk (Kd.R_lower ho1 (below_size (by repeat (first | (with_reducible first | exact HB.out | apply below_alloc | apply pw_below_drewN | apply below_drew1) | exact HB.out)))); have n2_ := Aside0.mk (below_step (by repeat (first | (with_reducible first | exact HB.out | apply below_alloc | apply pw_below_drewN | apply below_drew1) | exact HB.out)) hb); clear HB; have HO306 := n0_; have HO309 := n1_; have HB := n2_; clear n0_ n1_ n2_; (try clear hb); (try clear hb2); (try clear hk); (try clear hi); (try clear ho0); (try clear ho1)) | ((with_reducible refine gate_dst (N := 9) rfl ?_); refine box_event ?hg (N := 9) ?hd (cs := #[.string (⟨#[]⟩ : ByteArray), .slice none 0 0, .slice none 0 0]) (t := 31) ?hr ?_; (case hd => rfl); (case hg => rfl); (case hr => first | (go_simp; done) | (go_simp; rfl)); intro gb311 hg w25 hbox hb; have n0_ := Aside0.mk (Kd.R_below (by (with_reducible repeat (first | apply Kd.R_alloc | apply Kd.R_drewN | apply Kd.R_drew)); exact HO306.out) hb); have n1_ := Aside0.mk (Kd.R_below (by (with_reducible repeat (first | apply Kd.R_alloc | apply Kd.R_drewN | apply Kd.R_drew)); exact HO309.out) hb); have n2_ := Aside0.mk (below_step (by repeat (first | (with_reducible first | exact HB.out | apply below_alloc | apply pw_below_drewN | apply below_drew1) | exact HB.out)) hb); have n3_ := Aside0.mk (hbox); have n4_ := Aside0.mk ((by rw [hg]; exact (below_size (by repeat (first | (with_reducible first | exact HB.out | apply below_alloc | apply pw_below_drewN | apply below_drew1) | exact HB.out))) : w.heap.size ≤ gb311)); have n5_ := Aside0.mk ((by rw [hg]; exact (below_size (by repeat (first | (with_reducible first | exact HB.out | apply below_alloc | apply pw_below_drewN | apply below_drew1) | exact HB.out))) : w.heap.size ≤ gb311)); clear HO306; clear HO309; clear HB; have HO306 := n0_; have HO309 := n1_; have HB := n2_; have BK311 := n3_; have GW311 := n4_; have GE311 := n5_; clear n0_ n1_ n2_ n3_ n4_ n5_; clear hb hbox hg; have hcz26_0 : w25.cell? ⟨gb311, 0, none⟩ = some (.string (⟨#[]⟩ : ByteArray)) := (blk_cell BK311.out 0).trans rfl; have hcz26_1 : w25.cell? ⟨gb311, 1, none⟩ = some (.slice none 0 0) := (blk_cell BK311.out 1).trans rfl; have hcz26_2 : w25.cell? ⟨gb311, 2, none⟩ = some (.slice none 0 0) := (blk_cell BK311.out 2).trans rfl; have hfz26_0 := blk_frozen BK311.out 0; have hfz26_1 := blk_frozen BK311.out 1; have hfz26_2 := blk_frozen BK311.out 2; obtain ⟨Ao27, co27, eo27⟩ := Kd.R_slice HO306.out; subst eo27; obtain ⟨Ao28, co28, eo28⟩ := Kd.R_slice HO309.out; subst eo28)); go_upto_region 7 with (first | (go_at_call 9; (with_reducible refine (foghornlaw20_awake.calls k  true _ A5.out).mono ?_); rintro e w23 ⟨rfl, hb⟩; have n0_ := Aside0.mk (below_step (by repeat (first | (with_reducible first | exact HB.out | apply below_alloc | apply pw_below_drewN | apply below_drew1) | exact HB.out)) hb); clear HB; have HB := n0_; clear n0_; (try clear hb); (try clear hb2); (try clear hk); (try clear hi)) | (go_at_call 11; (with_reducible refine (mend_Mend.calls k a0 a1 _ _ l2 t303 t304 t307 t310 _ ?side1 ?side2 A7.out).mono ?_); (case side1 => repeat (first | exact (Kd.C_below HR2.out HB.out) | (with_reducible refine Kd.C_alloc ?_ _) | (with_reducible refine Kd.C_drewN ?_ _) | (with_reducible refine Kd.C_drew ?_))); (case side2 => exact HC2.out); rintro e w24 ⟨v305, v308, rfl, ho0, ho1, hb⟩; have n0_ := Aside0.mk (Kd.R_lower ho0 (below_size (by repeat (first | (with_reducible first | exact HB.out | apply below_alloc | apply pw_below_drewN | apply below_drew1) | exact HB.out)))); have n1_ := Aside0.mk (Kd.R_lower ho1 (below_size (by repeat (first | (with_reducible first | exact HB.out | apply below_alloc | apply pw_below_drewN | apply below_drew1) | exact HB.out)))); have n2_ := Aside0.mk (below_step (by repeat (first | (with_reducible first | exact HB.out | apply below_alloc | apply pw_below_drewN | apply below_drew1) | exact HB.out)) hb); clear HB; have HO306 := n0_; have HO309 := n1_; have HB := n2_; clear n0_ n1_ n2_; (try clear hb); (try clear hb2); (try clear hk); (try clear hi); (try clear ho0); (try clear ho1)) | ((with_reducible refine gate_dst (N := 9) rfl ?_); refine box_event ?hg (N := 9) ?hd (cs := #[.string (⟨#[]⟩ : ByteArray), .slice none 0 0, .slice none 0 0]) (t := 31) ?hr ?_; (case hd => rfl); (case hg => rfl); (case hr => first | (go_simp; done) | (go_simp; rfl)); intro gb311 hg w25 hbox hb; have n0_ := Aside0.mk (Kd.R_below (by (with_reducible repeat (first | apply Kd.R_alloc | apply Kd.R_drewN | apply Kd.R_drew)); exact HO306.out) hb); have n1_ := Aside0.mk (Kd.R_below (by (with_reducible repeat (first | apply Kd.R_alloc | apply Kd.R_drewN | apply Kd.R_drew)); exact HO309.out) hb); have n2_ := Aside0.mk (below_step (by repeat (first | (with_reducible first | exact HB.out | apply below_alloc | apply pw_below_drewN | apply below_drew1) | exact HB.out)) hb); have n3_ := Aside0.mk (hbox); have n4_ := Aside0.mk ((by rw [hg]; exact (below_size (by repeat (first | (with_reducible first | exact HB.out | apply below_alloc | apply pw_below_drewN | apply below_drew1) | exact HB.out))) : w.heap.size ≤ gb311)); have n5_ := Aside0.mk ((by rw [hg]; exact (below_size (by repeat (first | (with_reducible first | exact HB.out | apply below_alloc | apply pw_below_drewN | apply below_drew1) | exact HB.out))) : w.heap.size ≤ gb311)); clear HO306; clear HO309; clear HB; have HO306 := n0_; have HO309 := n1_; have HB := n2_; have BK311 := n3_; have GW311 := n4_; have GE311 := n5_; clear n0_ n1_ n2_ n3_ n4_ n5_; clear hb hbox hg; have hcz26_0 : w25.cell? ⟨gb311, 0, none⟩ = some (.string (⟨#[]⟩ : ByteArray)) := (blk_cell BK311.out 0).trans rfl; have hcz26_1 : w25.cell? ⟨gb311, 1, none⟩ = some (.slice none 0 0) := (blk_cell BK311.out 1).trans rfl; have hcz26_2 : w25.cell? ⟨gb311, 2, none⟩ = some (.slice none 0 0) := (blk_cell BK311.out 2).trans rfl; have hfz26_0 := blk_frozen BK311.out 0; have hfz26_1 := blk_frozen BK311.out 1; have hfz26_2 := blk_frozen BK311.out 2; obtain ⟨Ao27, co27, eo27⟩ := Kd.R_slice HO306.out; subst eo27; obtain ⟨Ao28, co28, eo28⟩ := Kd.R_slice HO309.out; subst eo28)))
      (try simp only [Act.put, List.setIfInBounds_toArray, List.set_cons_zero, List.set_cons_succ])
      go_cut [57] (fun v57 wc => ∃ (kq : Nat) (x57_21 : Bool), v57 = .bool x57_21 ∧ Aside0 (foghornlaw20_MendNever.j0 kq a0 a1 l2 a3 t310 (⟨#[]⟩ : ByteArray) x57_21 t303 t304 t307 = some r) ∧ Aside0 (kq ≤ k) ∧ Aside0 (Kd.R (Kd.int .i64) 3 wc w.heap.size (fun k_ => some k_ ≠ ((.slice Ao28 t307.length co28) : Value).ownBlock) (.slice Ao27 t304.length co27) t304) ∧ Aside0 (Kd.R (Kd.int .i64) 3 wc w.heap.size (fun k_ => some k_ ≠ ((.slice Ao27 t304.length co27) : Value).ownBlock) (.slice Ao28 t307.length co28) t307) ∧ Aside0 (wc.heap[gb311]? = some (.cells #[.string t303, (.slice Ao27 t304.length co27), (.slice Ao28 t307.length co28)] 31 (0, 0))) ∧ Aside0 (Below w.heap.size w wc))
      case first => as_aux_lemma =>
        have H := HC22.out
        clear HC22
        by_cases c29 : (a3.size : Int) > 0
        · rw [if_pos c29] at H
          have c29b0 : decide (0 < (a3.size : Int)) = true := decide_eq_true c29
          have c29b1 : decide (0 < a3.size) = true := decide_eq_true (by omega)
          clear c29
          (first | rw [c29b0] | (simp only [i64_w, i32_w]; rw [c29b0]) | skip)
          have H' := Aside0.mk H
          clear H
          as_aux_lemma =>
            go_wp2
            repeat (go_quiet (fail); try go_wp2)
            go_meet
            case rel => exact ⟨_, (decide ((wrap64 ((a0.size : Int) - a1)) > 0)), (by first | rfl | (simp; done) | (simp [*]; done)), H', ⟨by first | omega | exact Nat.le_refl _⟩, ⟨by (with_reducible repeat (first | apply Kd.R_alloc | apply Kd.R_drewN | apply Kd.R_drew)); exact Kd.R_mono (Kd.R_far (p := ⟨gb311, 2, none⟩) (Kd.R_far (p := ⟨gb311, 1, none⟩) (Kd.R_far (p := ⟨gb311, 0, none⟩) (Kd.R_types HO306.out BK311.out (by decide)) (fun _ hk => hk.2) (.string t303)) (fun _ hk => hk.2) (.slice Ao27 t304.length co27)) (fun _ hk => hk.2) (.slice Ao28 t307.length co28)) (fun _ hk => hk.1)⟩, ⟨by (with_reducible repeat (first | apply Kd.R_alloc | apply Kd.R_drewN | apply Kd.R_drew)); exact Kd.R_mono (Kd.R_far (p := ⟨gb311, 2, none⟩) (Kd.R_far (p := ⟨gb311, 1, none⟩) (Kd.R_far (p := ⟨gb311, 0, none⟩) (Kd.R_types HO309.out BK311.out (by decide)) (fun _ hk => hk.2) (.string t303)) (fun _ hk => hk.2) (.slice Ao27 t304.length co27)) (fun _ hk => hk.2) (.slice Ao28 t307.length co28)) (fun _ hk => hk.1)⟩, ⟨by (with_reducible repeat (first | refine blk_drewN ?_ _ | refine blk_drew ?_ | refine blk_alloc ?_ _)); refine blk_put (cs := #[.string t303, .slice Ao27 t304.length co27, .slice none 0 0]) ?_ 2 _ rfl; (with_reducible repeat (first | refine blk_drewN ?_ _ | refine blk_drew ?_ | refine blk_alloc ?_ _)); refine blk_put (cs := #[.string t303, .slice none 0 0, .slice none 0 0]) ?_ 1 _ rfl; (with_reducible repeat (first | refine blk_drewN ?_ _ | refine blk_drew ?_ | refine blk_alloc ?_ _)); refine blk_put (cs := #[.string (⟨#[]⟩ : ByteArray), .slice none 0 0, .slice none 0 0]) ?_ 0 _ rfl; (with_reducible repeat (first | refine blk_drewN ?_ _ | refine blk_drew ?_ | refine blk_alloc ?_ _)); exact BK311.out⟩, ⟨by repeat (first | (with_reducible first | exact HB.out | apply below_alloc | apply pw_below_drewN | apply below_drew1 | refine below_set ?_ GE311.out) | exact HB.out)⟩⟩
        · rw [if_neg c29] at H
          have c29b0 : decide (0 < (a3.size : Int)) = false := decide_eq_false c29
          have c29b1 : decide (0 < a3.size) = false := decide_eq_false (by omega)
          clear c29
          (first | rw [c29b0] | (simp only [i64_w, i32_w]; rw [c29b0]) | skip)
          have H' := Aside0.mk H
          clear H
          as_aux_lemma =>
            go_wp2
            repeat (go_quiet (fail); try go_wp2)
            go_meet
            case rel => exact ⟨_, (false), (by first | rfl | (simp; done) | (simp [*]; done)), H', ⟨by first | omega | exact Nat.le_refl _⟩, ⟨by (with_reducible repeat (first | apply Kd.R_alloc | apply Kd.R_drewN | apply Kd.R_drew)); exact Kd.R_mono (Kd.R_far (p := ⟨gb311, 2, none⟩) (Kd.R_far (p := ⟨gb311, 1, none⟩) (Kd.R_far (p := ⟨gb311, 0, none⟩) (Kd.R_types HO306.out BK311.out (by decide)) (fun _ hk => hk.2) (.string t303)) (fun _ hk => hk.2) (.slice Ao27 t304.length co27)) (fun _ hk => hk.2) (.slice Ao28 t307.length co28)) (fun _ hk => hk.1)⟩, ⟨by (with_reducible repeat (first | apply Kd.R_alloc | apply Kd.R_drewN | apply Kd.R_drew)); exact Kd.R_mono (Kd.R_far (p := ⟨gb311, 2, none⟩) (Kd.R_far (p := ⟨gb311, 1, none⟩) (Kd.R_far (p := ⟨gb311, 0, none⟩) (Kd.R_types HO309.out BK311.out (by decide)) (fun _ hk => hk.2) (.string t303)) (fun _ hk => hk.2) (.slice Ao27 t304.length co27)) (fun _ hk => hk.2) (.slice Ao28 t307.length co28)) (fun _ hk => hk.1)⟩, ⟨by (with_reducible repeat (first | refine blk_drewN ?_ _ | refine blk_drew ?_ | refine blk_alloc ?_ _)); refine blk_put (cs := #[.string t303, .slice Ao27 t304.length co27, .slice none 0 0]) ?_ 2 _ rfl; (with_reducible repeat (first | refine blk_drewN ?_ _ | refine blk_drew ?_ | refine blk_alloc ?_ _)); refine blk_put (cs := #[.string t303, .slice none 0 0, .slice none 0 0]) ?_ 1 _ rfl; (with_reducible repeat (first | refine blk_drewN ?_ _ | refine blk_drew ?_ | refine blk_alloc ?_ _)); refine blk_put (cs := #[.string (⟨#[]⟩ : ByteArray), .slice none 0 0, .slice none 0 0]) ?_ 0 _ rfl; (with_reducible repeat (first | refine blk_drewN ?_ _ | refine blk_drew ?_ | refine blk_alloc ?_ _)); exact BK311.out⟩, ⟨by repeat (first | (with_reducible first | exact HB.out | apply below_alloc | apply pw_below_drewN | apply below_drew1 | refine below_set ?_ GE311.out) | exact HB.out)⟩⟩
      case rest => as_aux_lemma =>
        clear HC22
        (try clear c2); (try clear p2); (try clear c4); (try clear c6); (try clear p6); (try clear c8); (try clear c8b0); (try clear c8b1); (try clear c9); (try clear c9b0); (try clear c9b1); (try clear c29); (try clear c29b0); (try clear c29b1); (try clear hcz13_0); (try clear hcz13_1); (try clear hcz13_2); (try clear hcz19_0); (try clear hcz19_1); (try clear hcz19_2); (try clear hcz26_0); (try clear hcz26_1); (try clear hcz26_2); (try clear hfz13_0); (try clear hfz13_1); (try clear hfz13_2); (try clear hfz19_0); (try clear hfz19_1); (try clear hfz19_2); (try clear hfz26_0); (try clear hfz26_1); (try clear hfz26_2)
        obtain ⟨kq, x57_21, rfl, HA, HJ21, HO_312001, HO_312002, BK311, HB⟩ := hcut
        cases kq with
        | zero => exact absurd HA.out (by simp [foghornlaw20_MendNever.j0])
        | succ kj21 =>
          have H := HA.out
          clear HA
          simp only [foghornlaw20_MendNever.j0] at H
          have HC30 := Aside0.mk H
          clear H
          go_upto_if 57 with (fail)
          repeat (go_quiet (fail); go_upto_if 57 with (fail))
          go_cut [11] (fun v11 wc => ∃ (kq : Nat) (x11_29 : ByteArray), v11 = .string x11_29 ∧ Aside0 (foghornlaw20_MendNever.j2 kq a0 a1 l2 t310 x11_29 t303 t304 t307 = some r) ∧ Aside0 (kq ≤ kj21) ∧ Aside0 (Kd.R (Kd.int .i64) 3 wc w.heap.size (fun k_ => some k_ ≠ ((.slice Ao28 t307.length co28) : Value).ownBlock) (.slice Ao27 t304.length co27) t304) ∧ Aside0 (Kd.R (Kd.int .i64) 3 wc w.heap.size (fun k_ => some k_ ≠ ((.slice Ao27 t304.length co27) : Value).ownBlock) (.slice Ao28 t307.length co28) t307) ∧ Aside0 (wc.heap[gb311]? = some (.cells #[.string t303, (.slice Ao27 t304.length co27), (.slice Ao28 t307.length co28)] 31 (0, 0))) ∧ Aside0 (Below w.heap.size w wc))
          case first => as_aux_lemma =>
            have H := HC30.out
            clear HC30
            by_cases c31 : x57_21 = true
            · subst c31
              have H1 : (foghornlaw20_MendNever.l0 kj21 a0 a1 l2 a3 t310 t303 t304 t307) = some r := by rw [if_pos rfl] at H; exact H
              clear H
              have H := H1
              clear H1
              have H' := Aside0.mk H
              clear H
              go_wp2
              repeat (go_quiet (fail); try go_wp2)
              (try simp only [add_off0])
              go_loopg [3] kj21 (fun kq v3 w' => ∃ (x3_2 : ByteArray), v3 = .string x3_2 ∧ Aside0 (foghornlaw20_MendNever.l0 kq a0 a1 l2 x3_2 t310 t303 t304 t307 = some r) ∧ Aside0 (kq ≤ kj21) ∧ Aside0 (Kd.R (Kd.int .i64) 3 w' w.heap.size (fun k_ => some k_ ≠ ((.slice Ao28 t307.length co28) : Value).ownBlock) (.slice Ao27 t304.length co27) t304) ∧ Aside0 (Kd.R (Kd.int .i64) 3 w' w.heap.size (fun k_ => some k_ ≠ ((.slice Ao27 t304.length co27) : Value).ownBlock) (.slice Ao28 t307.length co28) t307) ∧ Aside0 (w'.heap[gb311]? = some (.cells #[.string t303, (.slice Ao27 t304.length co27), (.slice Ao28 t307.length co28)] 31 (0, 0))) ∧ Aside0 (Below w.heap.size w w'))
              case atStart => exact ⟨(a3), (by first | rfl | (simp; done) | (simp [*]; done)), H', ⟨Nat.le_refl _⟩, ⟨by (with_reducible repeat (first | apply Kd.R_alloc | apply Kd.R_drewN | apply Kd.R_drew)); exact HO_312001.out⟩, ⟨by (with_reducible repeat (first | apply Kd.R_alloc | apply Kd.R_drewN | apply Kd.R_drew)); exact HO_312002.out⟩, ⟨by (with_reducible repeat (first | refine blk_drewN ?_ _ | refine blk_drew ?_ | refine blk_alloc ?_ _)); exact BK311.out⟩, ⟨by repeat (first | (with_reducible first | exact HB.out | apply below_alloc | apply pw_below_drewN | apply below_drew1 | refine below_set ?_ GE311.out) | exact HB.out)⟩⟩
              case round => as_aux_lemma =>
                clear H'
                (try clear c2); (try clear p2); (try clear c3); (try clear c4); (try clear c6); (try clear p6); (try clear c8); (try clear c8b0); (try clear c8b1); (try clear c9); (try clear c9b0); (try clear c9b1); (try clear c29); (try clear c29b0); (try clear c29b1); (try clear c31); (try clear hcz13_0); (try clear hcz13_1); (try clear hcz13_2); (try clear hcz19_0); (try clear hcz19_1); (try clear hcz19_2); (try clear hcz26_0); (try clear hcz26_1); (try clear hcz26_2); (try clear hfz13_0); (try clear hfz13_1); (try clear hfz13_2); (try clear hfz19_0); (try clear hfz19_1); (try clear hfz19_2); (try clear hfz26_0); (try clear hfz26_1); (try clear hfz26_2); (try clear p2); (try clear p6)
                obtain ⟨x3_2, rfl, HA, HK2, HO_312001, HO_312002, BK311, HB⟩ := hrel
                cases gk with
                | zero => exact absurd HA.out (by simp [foghornlaw20_MendNever.l0])
                | succ k2 =>
                  have H := HA.out
                  clear HA
                  simp only [foghornlaw20_MendNever.l0] at H
                  by_cases c32 : (x3_2.size : Int) < (wrap64 ((a0.size : Int) - a1))
                  · rw [if_pos c32] at H
                    have c32b0 : decide ((x3_2.size : Int) < (wrap64 ((a0.size : Int) - a1))) = true := decide_eq_true c32
                    clear c32
                    (first | rw [c32b0] | (simp only [i64_w, i32_w]; rw [c32b0]) | skip)
                    by_cases c33 : x3_2.size + x3_2.size ≤ 9223372036854775807
                    · rw [if_pos c33] at H
                      have c33b0 := eq_true c33
                      have c33b1 : decide (x3_2.size + x3_2.size ≤ 9223372036854775807) = true := decide_eq_true c33
                      try have c33b2 : (9223372036854775807 < x3_2.size + x3_2.size) = False := eq_false (Nat.not_lt.2 c33)
                      have H' := Aside0.mk H
                      clear H
                      as_aux_lemma =>
                        go_wp2
                        repeat (go_quiet (fail); try go_wp2)
                        refine Handed.intro k2 ?measure ?_
                        rotate_left
                        go_step
                        (try simp only [add_off0])
                        (repeat apply Exists.intro)
                        refine ⟨?rel, rfl⟩
                        case measure => have := HJ21.out; have := HK2.out; omega
                        case rel => exact ⟨(x3_2 ++ x3_2), (by first | rfl | (simp; done) | (simp [*]; done)), H', ⟨by have := HJ21.out; have := HK2.out; omega⟩, ⟨by (with_reducible repeat (first | apply Kd.R_alloc | apply Kd.R_drewN | apply Kd.R_drew)); exact HO_312001.out⟩, ⟨by (with_reducible repeat (first | apply Kd.R_alloc | apply Kd.R_drewN | apply Kd.R_drew)); exact HO_312002.out⟩, ⟨by (with_reducible repeat (first | refine blk_drewN ?_ _ | refine blk_drew ?_ | refine blk_alloc ?_ _)); exact BK311.out⟩, ⟨by repeat (first | (with_reducible first | exact HB.out | apply below_alloc | apply pw_below_drewN | apply below_drew1 | refine below_set ?_ GE311.out) | exact HB.out)⟩⟩
                    · rw [if_neg c33] at H
                      exact absurd H (by simp)
                  · rw [if_neg c32] at H
                    have c32b0 : decide ((x3_2.size : Int) < (wrap64 ((a0.size : Int) - a1))) = false := decide_eq_false c32
                    clear c32
                    (first | rw [c32b0] | (simp only [i64_w, i32_w]; rw [c32b0]) | skip)
                    obtain ⟨ji34, hji34⟩ : ∃ j_ : Int, (wrap64 ((a0.size : Int) - a1)) = j_ := ⟨_, rfl⟩
                    replace H : (if 0 ≤ (ji34) then (if (ji34) ≤ (x3_2.size : Int) then ((foghornref19_Encode.f k2 (x3_2.extract 0 ((ji34) : Int).toNat) a1).bind fun bt312 => (foghornlaw20_MendNever.j2 k2 a0 a1 l2 t310 bt312.1 t303 t304 t307)) else (none)) else (none)) = some r := by first | (rw [hji34] at H; exact H) | (simp only [hji34] at H ⊢; exact H)
                    (try rw [hji34] at c32b0)
                    have hji34w : (IntKind.i64.wrap ((a0.size : Int) - a1)) = ji34 := (i64_w _).trans hji34
                    by_cases c35 : 0 ≤ (ji34)
                    · rw [if_pos c35] at H
                      have c35b0 := eq_true c35
                      have c35b1 : decide (0 ≤ (ji34)) = true := decide_eq_true c35
                      clear c35
                      by_cases c36 : (ji34) ≤ (x3_2.size : Int)
                      · rw [if_pos c36] at H
                        have c36b0 := eq_true c36
                        have c36b1 : decide ((ji34) ≤ (x3_2.size : Int)) = true := decide_eq_true c36
                        clear c36
                        replace H := Option.bind_eq_some_iff.mp H
                        obtain ⟨⟨t312, t313⟩, A370, H⟩ := H
                        replace H : (foghornlaw20_MendNever.j2 k2 a0 a1 l2 t310 t312 t303 t304 t307) = some r := H
                        have A37 := Aside0.mk A370
                        clear A370
                        have H' := Aside0.mk H
                        clear H
                        as_aux_lemma =>
                          go_wp2_with (first | (go_at_call 13; (with_reducible refine (foghornref19_Encode.calls k2 (x3_2.extract 0 ((ji34) : Int).toNat) a1 t312 t313 _ A37.out).mono ?_); rintro e w38 ⟨rfl, hb⟩; have n0_ := Aside0.mk (Kd.R_below (by (with_reducible repeat (first | apply Kd.R_alloc | apply Kd.R_drewN | apply Kd.R_drew)); exact HO_312001.out) hb); have n1_ := Aside0.mk (Kd.R_below (by (with_reducible repeat (first | apply Kd.R_alloc | apply Kd.R_drewN | apply Kd.R_drew)); exact HO_312002.out) hb); have n2_ := Aside0.mk (blk_below (g := gb311) (o := .cells #[.string t303, .slice Ao27 t304.length co27, .slice Ao28 t307.length co28] 31 (0, 0)) (by (with_reducible repeat (first | refine blk_drewN ?_ _ | refine blk_drew ?_ | refine blk_alloc ?_ _)); exact BK311.out) hb); have n3_ := Aside0.mk (below_step (by repeat (first | (with_reducible first | exact HB.out | apply below_alloc | apply pw_below_drewN | apply below_drew1 | refine below_set ?_ GE311.out) | exact HB.out)) hb); clear HO_312001; clear HO_312002; clear BK311; clear HB; have HO_312001 := n0_; have HO_312002 := n1_; have BK311 := n2_; have HB := n3_; clear n0_ n1_ n2_ n3_; (try clear hb); (try clear hb2); (try clear hk); (try clear hi)))
                          repeat (go_quiet (first | (go_at_call 13; (with_reducible refine (foghornref19_Encode.calls k2 (x3_2.extract 0 ((ji34) : Int).toNat) a1 t312 t313 _ A37.out).mono ?_); rintro e w38 ⟨rfl, hb⟩; have n0_ := Aside0.mk (Kd.R_below (by (with_reducible repeat (first | apply Kd.R_alloc | apply Kd.R_drewN | apply Kd.R_drew)); exact HO_312001.out) hb); have n1_ := Aside0.mk (Kd.R_below (by (with_reducible repeat (first | apply Kd.R_alloc | apply Kd.R_drewN | apply Kd.R_drew)); exact HO_312002.out) hb); have n2_ := Aside0.mk (blk_below (g := gb311) (o := .cells #[.string t303, .slice Ao27 t304.length co27, .slice Ao28 t307.length co28] 31 (0, 0)) (by (with_reducible repeat (first | refine blk_drewN ?_ _ | refine blk_drew ?_ | refine blk_alloc ?_ _)); exact BK311.out) hb); have n3_ := Aside0.mk (below_step (by repeat (first | (with_reducible first | exact HB.out | apply below_alloc | apply pw_below_drewN | apply below_drew1 | refine below_set ?_ GE311.out) | exact HB.out)) hb); clear HO_312001; clear HO_312002; clear BK311; clear HB; have HO_312001 := n0_; have HO_312002 := n1_; have BK311 := n2_; have HB := n3_; clear n0_ n1_ n2_ n3_; (try clear hb); (try clear hb2); (try clear hk); (try clear hi))); try go_wp2_with (first | (go_at_call 13; (with_reducible refine (foghornref19_Encode.calls k2 (x3_2.extract 0 ((ji34) : Int).toNat) a1 t312 t313 _ A37.out).mono ?_); rintro e w38 ⟨rfl, hb⟩; have n0_ := Aside0.mk (Kd.R_below (by (with_reducible repeat (first | apply Kd.R_alloc | apply Kd.R_drewN | apply Kd.R_drew)); exact HO_312001.out) hb); have n1_ := Aside0.mk (Kd.R_below (by (with_reducible repeat (first | apply Kd.R_alloc | apply Kd.R_drewN | apply Kd.R_drew)); exact HO_312002.out) hb); have n2_ := Aside0.mk (blk_below (g := gb311) (o := .cells #[.string t303, .slice Ao27 t304.length co27, .slice Ao28 t307.length co28] 31 (0, 0)) (by (with_reducible repeat (first | refine blk_drewN ?_ _ | refine blk_drew ?_ | refine blk_alloc ?_ _)); exact BK311.out) hb); have n3_ := Aside0.mk (below_step (by repeat (first | (with_reducible first | exact HB.out | apply below_alloc | apply pw_below_drewN | apply below_drew1 | refine below_set ?_ GE311.out) | exact HB.out)) hb); clear HO_312001; clear HO_312002; clear BK311; clear HB; have HO_312001 := n0_; have HO_312002 := n1_; have BK311 := n2_; have HB := n3_; clear n0_ n1_ n2_ n3_; (try clear hb); (try clear hb2); (try clear hk); (try clear hi))))
                          go_meet
                          case rel => exact ⟨_, (t312), (by first | rfl | (simp; done) | (simp [*]; done)), H', ⟨by have := HJ21.out; have := HK2.out; first | omega | exact Nat.le_refl _⟩, ⟨by (with_reducible repeat (first | apply Kd.R_alloc | apply Kd.R_drewN | apply Kd.R_drew)); exact HO_312001.out⟩, ⟨by (with_reducible repeat (first | apply Kd.R_alloc | apply Kd.R_drewN | apply Kd.R_drew)); exact HO_312002.out⟩, ⟨by (with_reducible repeat (first | refine blk_drewN ?_ _ | refine blk_drew ?_ | refine blk_alloc ?_ _)); exact BK311.out⟩, ⟨by repeat (first | (with_reducible first | exact HB.out | apply below_alloc | apply pw_below_drewN | apply below_drew1 | refine below_set ?_ GE311.out) | exact HB.out)⟩⟩
                      · rw [if_neg c36] at H
                        exact absurd H (by simp)
                    · rw [if_neg c35] at H
                      exact absurd H (by simp)
            · replace c31 := Bool.eq_false_iff.mpr c31
              subst c31
              have H1 : (foghornlaw20_MendNever.j2 kj21 a0 a1 l2 t310 (⟨#[]⟩ : ByteArray) t303 t304 t307) = some r := by rw [if_neg (show ¬ (false = true) by decide)] at H; exact H
              clear H
              have H := H1
              clear H1
              have H' := Aside0.mk H
              clear H
              as_aux_lemma =>
                go_wp2
                repeat (go_quiet (fail); try go_wp2)
                go_meet
                case rel => exact ⟨_, ((⟨#[]⟩ : ByteArray)), (by first | rfl | (simp; done) | (simp [*]; done)), H', ⟨by have := HJ21.out; first | omega | exact Nat.le_refl _⟩, ⟨by (with_reducible repeat (first | apply Kd.R_alloc | apply Kd.R_drewN | apply Kd.R_drew)); exact HO_312001.out⟩, ⟨by (with_reducible repeat (first | apply Kd.R_alloc | apply Kd.R_drewN | apply Kd.R_drew)); exact HO_312002.out⟩, ⟨by (with_reducible repeat (first | refine blk_drewN ?_ _ | refine blk_drew ?_ | refine blk_alloc ?_ _)); exact BK311.out⟩, ⟨by repeat (first | (with_reducible first | exact HB.out | apply below_alloc | apply pw_below_drewN | apply below_drew1 | refine below_set ?_ GE311.out) | exact HB.out)⟩⟩
          case rest => as_aux_lemma =>
            clear HC30
            (try clear c2); (try clear p2); (try clear c3); (try clear c4); (try clear c6); (try clear p6); (try clear c8); (try clear c8b0); (try clear c8b1); (try clear c9); (try clear c9b0); (try clear c9b1); (try clear c29); (try clear c29b0); (try clear c29b1); (try clear c31); (try clear c32); (try clear c32b0); (try clear c33); (try clear c33b0); (try clear c33b1); (try clear c33b2); (try clear c35); (try clear c35b0); (try clear c35b1); (try clear c36); (try clear c36b0); (try clear c36b1); (try clear hcz13_0); (try clear hcz13_1); (try clear hcz13_2); (try clear hcz19_0); (try clear hcz19_1); (try clear hcz19_2); (try clear hcz26_0); (try clear hcz26_1); (try clear hcz26_2); (try clear hfz13_0); (try clear hfz13_1); (try clear hfz13_2); (try clear hfz19_0); (try clear hfz19_1); (try clear hfz19_2); (try clear hfz26_0); (try clear hfz26_1); (try clear hfz26_2); (try clear p2); (try clear p6)
            obtain ⟨kq, x11_29, rfl, HA, HJ29, HO_312001, HO_312002, BK311, HB⟩ := hcut
            cases kq with
            | zero => exact absurd HA.out (by simp [foghornlaw20_MendNever.j2])
            | succ kj29 =>
              have H := HA.out
              clear HA
              simp only [foghornlaw20_MendNever.j2] at H
              replace H := Option.bind_eq_some_iff.mp H
              obtain ⟨⟨t314, t315⟩, A390, H⟩ := H
              replace H : (if x11_29.toList = ([] : List UInt8) then (foghornlaw20_MendNever.j3 kj29 a0 a1 l2 t310 x11_29 t314 false t303 t304 t307) else (foghornlaw20_MendNever.j3 kj29 a0 a1 l2 t310 x11_29 t314 (t315 != 0) t303 t304 t307)) = some r := H
              have A39 := Aside0.mk A390
              clear A390
              have HC40 := Aside0.mk H
              clear H
              go_upto_region 12 with (first | (go_at_call 14; (with_reducible refine (mend_Within.calls kj29 a0 x11_29 a1 _ _ l2 t314 t315 _ ?side1 ?side2 A39.out).mono ?_); (case side1 => repeat (first | exact (Kd.C_below HR2.out HB.out) | (with_reducible refine Kd.C_alloc ?_ _) | (with_reducible refine Kd.C_drewN ?_ _) | (with_reducible refine Kd.C_drew ?_))); (case side2 => exact HC2.out); rintro e w41 ⟨rfl, hb⟩; have n0_ := Aside0.mk (Kd.R_below (by (with_reducible repeat (first | apply Kd.R_alloc | apply Kd.R_drewN | apply Kd.R_drew)); exact HO_312001.out) hb); have n1_ := Aside0.mk (Kd.R_below (by (with_reducible repeat (first | apply Kd.R_alloc | apply Kd.R_drewN | apply Kd.R_drew)); exact HO_312002.out) hb); have n2_ := Aside0.mk (blk_below (g := gb311) (o := .cells #[.string t303, .slice Ao27 t304.length co27, .slice Ao28 t307.length co28] 31 (0, 0)) (by (with_reducible repeat (first | refine blk_drewN ?_ _ | refine blk_drew ?_ | refine blk_alloc ?_ _)); exact BK311.out) hb); have n3_ := Aside0.mk (below_step (by repeat (first | (with_reducible first | exact HB.out | apply below_alloc | apply pw_below_drewN | apply below_drew1 | refine below_set ?_ GE311.out) | exact HB.out)) hb); clear HO_312001; clear HO_312002; clear BK311; clear HB; have HO_312001 := n0_; have HO_312002 := n1_; have BK311 := n2_; have HB := n3_; clear n0_ n1_ n2_ n3_; (try clear hb); (try clear hb2); (try clear hk); (try clear hi)))
              repeat (go_quiet (first | (go_at_call 14; (with_reducible refine (mend_Within.calls kj29 a0 x11_29 a1 _ _ l2 t314 t315 _ ?side1 ?side2 A39.out).mono ?_); (case side1 => repeat (first | exact (Kd.C_below HR2.out HB.out) | (with_reducible refine Kd.C_alloc ?_ _) | (with_reducible refine Kd.C_drewN ?_ _) | (with_reducible refine Kd.C_drew ?_))); (case side2 => exact HC2.out); rintro e w41 ⟨rfl, hb⟩; have n0_ := Aside0.mk (Kd.R_below (by (with_reducible repeat (first | apply Kd.R_alloc | apply Kd.R_drewN | apply Kd.R_drew)); exact HO_312001.out) hb); have n1_ := Aside0.mk (Kd.R_below (by (with_reducible repeat (first | apply Kd.R_alloc | apply Kd.R_drewN | apply Kd.R_drew)); exact HO_312002.out) hb); have n2_ := Aside0.mk (blk_below (g := gb311) (o := .cells #[.string t303, .slice Ao27 t304.length co27, .slice Ao28 t307.length co28] 31 (0, 0)) (by (with_reducible repeat (first | refine blk_drewN ?_ _ | refine blk_drew ?_ | refine blk_alloc ?_ _)); exact BK311.out) hb); have n3_ := Aside0.mk (below_step (by repeat (first | (with_reducible first | exact HB.out | apply below_alloc | apply pw_below_drewN | apply below_drew1 | refine below_set ?_ GE311.out) | exact HB.out)) hb); clear HO_312001; clear HO_312002; clear BK311; clear HB; have HO_312001 := n0_; have HO_312002 := n1_; have BK311 := n2_; have HB := n3_; clear n0_ n1_ n2_ n3_; (try clear hb); (try clear hb2); (try clear hk); (try clear hi))); go_upto_region 12 with (first | (go_at_call 14; (with_reducible refine (mend_Within.calls kj29 a0 x11_29 a1 _ _ l2 t314 t315 _ ?side1 ?side2 A39.out).mono ?_); (case side1 => repeat (first | exact (Kd.C_below HR2.out HB.out) | (with_reducible refine Kd.C_alloc ?_ _) | (with_reducible refine Kd.C_drewN ?_ _) | (with_reducible refine Kd.C_drew ?_))); (case side2 => exact HC2.out); rintro e w41 ⟨rfl, hb⟩; have n0_ := Aside0.mk (Kd.R_below (by (with_reducible repeat (first | apply Kd.R_alloc | apply Kd.R_drewN | apply Kd.R_drew)); exact HO_312001.out) hb); have n1_ := Aside0.mk (Kd.R_below (by (with_reducible repeat (first | apply Kd.R_alloc | apply Kd.R_drewN | apply Kd.R_drew)); exact HO_312002.out) hb); have n2_ := Aside0.mk (blk_below (g := gb311) (o := .cells #[.string t303, .slice Ao27 t304.length co27, .slice Ao28 t307.length co28] 31 (0, 0)) (by (with_reducible repeat (first | refine blk_drewN ?_ _ | refine blk_drew ?_ | refine blk_alloc ?_ _)); exact BK311.out) hb); have n3_ := Aside0.mk (below_step (by repeat (first | (with_reducible first | exact HB.out | apply below_alloc | apply pw_below_drewN | apply below_drew1 | refine below_set ?_ GE311.out) | exact HB.out)) hb); clear HO_312001; clear HO_312002; clear BK311; clear HB; have HO_312001 := n0_; have HO_312002 := n1_; have BK311 := n2_; have HB := n3_; clear n0_ n1_ n2_ n3_; (try clear hb); (try clear hb2); (try clear hk); (try clear hi))))
              (try simp only [Act.put, List.setIfInBounds_toArray, List.set_cons_zero, List.set_cons_succ])
              go_cut [92] (fun v92 wc => ∃ (kq : Nat) (x92_39 : Bool), v92 = .bool x92_39 ∧ Aside0 (foghornlaw20_MendNever.j3 kq a0 a1 l2 t310 x11_29 t314 x92_39 t303 t304 t307 = some r) ∧ Aside0 (kq ≤ kj29) ∧ Aside0 (Kd.R (Kd.int .i64) 3 wc w.heap.size (fun k_ => some k_ ≠ ((.slice Ao28 t307.length co28) : Value).ownBlock) (.slice Ao27 t304.length co27) t304) ∧ Aside0 (Kd.R (Kd.int .i64) 3 wc w.heap.size (fun k_ => some k_ ≠ ((.slice Ao27 t304.length co27) : Value).ownBlock) (.slice Ao28 t307.length co28) t307) ∧ Aside0 (wc.heap[gb311]? = some (.cells #[.string t303, (.slice Ao27 t304.length co27), (.slice Ao28 t307.length co28)] 31 (0, 0))) ∧ Aside0 (Below w.heap.size w wc))
              case first => as_aux_lemma =>
                have H := HC40.out
                clear HC40
                by_cases c42 : x11_29.toList = ([] : List UInt8)
                · rw [if_pos c42] at H
                  have c42b0 : (x11_29.toList == ([] : List UInt8)) = true := beq_iff_eq.mpr c42
                  have c42b1 : (x11_29.toList != ([] : List UInt8)) = false := bne_eq_false_iff_eq.mpr c42
                  clear c42
                  (first | rw [c42b0] | (simp only [i64_w, i32_w]; rw [c42b0]) | skip)
                  have H' := Aside0.mk H
                  clear H
                  as_aux_lemma =>
                    go_wp2
                    repeat (go_quiet (fail); try go_wp2)
                    go_meet
                    case rel => exact ⟨_, (false), (by first | rfl | (simp; done) | (simp [*]; done)), H', ⟨by have := HJ21.out; have := HJ29.out; first | omega | exact Nat.le_refl _⟩, ⟨by (with_reducible repeat (first | apply Kd.R_alloc | apply Kd.R_drewN | apply Kd.R_drew)); exact HO_312001.out⟩, ⟨by (with_reducible repeat (first | apply Kd.R_alloc | apply Kd.R_drewN | apply Kd.R_drew)); exact HO_312002.out⟩, ⟨by (with_reducible repeat (first | refine blk_drewN ?_ _ | refine blk_drew ?_ | refine blk_alloc ?_ _)); exact BK311.out⟩, ⟨by repeat (first | (with_reducible first | exact HB.out | apply below_alloc | apply pw_below_drewN | apply below_drew1 | refine below_set ?_ GE311.out) | exact HB.out)⟩⟩
                · rw [if_neg c42] at H
                  have c42b0 : (x11_29.toList == ([] : List UInt8)) = false := beq_eq_false_iff_ne.mpr c42
                  have c42b1 : (x11_29.toList != ([] : List UInt8)) = true := bne_iff_ne.mpr c42
                  (first | rw [c42b0] | (simp only [i64_w, i32_w]; rw [c42b0]) | skip)
                  have H' := Aside0.mk H
                  clear H
                  as_aux_lemma =>
                    go_wp2
                    repeat (go_quiet (fail); try go_wp2)
                    go_meet
                    case rel => exact ⟨_, ((t315 != 0)), (by first | rfl | (simp; done) | (simp [*]; done)), H', ⟨by have := HJ21.out; have := HJ29.out; first | omega | exact Nat.le_refl _⟩, ⟨by (with_reducible repeat (first | apply Kd.R_alloc | apply Kd.R_drewN | apply Kd.R_drew)); exact HO_312001.out⟩, ⟨by (with_reducible repeat (first | apply Kd.R_alloc | apply Kd.R_drewN | apply Kd.R_drew)); exact HO_312002.out⟩, ⟨by (with_reducible repeat (first | refine blk_drewN ?_ _ | refine blk_drew ?_ | refine blk_alloc ?_ _)); exact BK311.out⟩, ⟨by repeat (first | (with_reducible first | exact HB.out | apply below_alloc | apply pw_below_drewN | apply below_drew1 | refine below_set ?_ GE311.out) | exact HB.out)⟩⟩
              case rest => as_aux_lemma =>
                clear HC40
                (try clear c2); (try clear p2); (try clear c3); (try clear c4); (try clear c6); (try clear p6); (try clear c8); (try clear c8b0); (try clear c8b1); (try clear c9); (try clear c9b0); (try clear c9b1); (try clear c29); (try clear c29b0); (try clear c29b1); (try clear c31); (try clear c32); (try clear c32b0); (try clear c33); (try clear c33b0); (try clear c33b1); (try clear c33b2); (try clear c35); (try clear c35b0); (try clear c35b1); (try clear c36); (try clear c36b0); (try clear c36b1); (try clear c42); (try clear c42b0); (try clear c42b1); (try clear hcz13_0); (try clear hcz13_1); (try clear hcz13_2); (try clear hcz19_0); (try clear hcz19_1); (try clear hcz19_2); (try clear hcz26_0); (try clear hcz26_1); (try clear hcz26_2); (try clear hfz13_0); (try clear hfz13_1); (try clear hfz13_2); (try clear hfz19_0); (try clear hfz19_1); (try clear hfz19_2); (try clear hfz26_0); (try clear hfz26_1); (try clear hfz26_2); (try clear p2); (try clear p6)
                obtain ⟨kq, x92_39, rfl, HA, HJ39, HO_312001, HO_312002, BK311, HB⟩ := hcut
                cases kq with
                | zero => exact absurd HA.out (by simp [foghornlaw20_MendNever.j3])
                | succ kj39 =>
                  have H := HA.out
                  clear HA
                  simp only [foghornlaw20_MendNever.j3] at H
                  by_cases c43 : x92_39 = true
                  · subst c43
                    have H1 : (some false) = some r := by rw [if_pos rfl] at H; exact H
                    clear H
                    have H := H1
                    clear H1
                    obtain rfl := Option.some.inj H
                    go_wp2
                    repeat (go_quiet (fail); try go_wp2)
                    go_ret
                    exact ⟨by first | rfl | (simp [errW_none, errW_some] <;> rfl) | (simp [*, errW_none, errW_some] <;> rfl), by repeat (first | (with_reducible first | exact HB.out | apply below_alloc | apply pw_below_drewN | apply below_drew1 | refine below_set ?_ GE311.out) | exact HB.out)⟩
                  · replace c43 := Bool.eq_false_iff.mpr c43
                    subst c43
                    have H1 : (if t310 = 9 then (if t314 = true then (some false) else (if t303.toList = ([] : List UInt8) then (some ((wrap64 ((t304.length : Int) + (t307.length : Int))) == 0)) else (some false))) else ((reed_Whole.f kj39 t303 a1).bind fun bt316 => ((mend_Within.f kj39 a0 t303 a1 l2).bind fun bt318 => ((mend_Mend.f kj39 t303 a1 l2).bind fun bt320 => (if t310 = 0 then (if bt316.2 = 0 then (if bt318.2 = 0 then (if bt320.2.2.2 = 0 then (if bt316.1 = true then (if bt318.1 = true then (if bt320.1.toList = t303.toList then (if (bt320.2.1.length : Int) = 0 then (if (t307.length : Int) = (l2.length : Int) then (if (wrap64 ((wrap64 (2 * (t304.length : Int))) + (l2.length : Int))) > a1 then (foghornlaw20_MendNever.j4 kj39 a0 l2 true t303 t304 t307) else (if t314 = true then (foghornlaw20_MendNever.j4 kj39 a0 l2 (x11_29.toList != t303.toList) t303 t304 t307) else (foghornlaw20_MendNever.j4 kj39 a0 l2 false t303 t304 t307))) else (foghornlaw20_MendNever.j4 kj39 a0 l2 true t303 t304 t307)) else (foghornlaw20_MendNever.j4 kj39 a0 l2 true t303 t304 t307)) else (foghornlaw20_MendNever.j4 kj39 a0 l2 true t303 t304 t307)) else (foghornlaw20_MendNever.j4 kj39 a0 l2 true t303 t304 t307)) else (foghornlaw20_MendNever.j4 kj39 a0 l2 true t303 t304 t307)) else (foghornlaw20_MendNever.j4 kj39 a0 l2 true t303 t304 t307)) else (foghornlaw20_MendNever.j4 kj39 a0 l2 true t303 t304 t307)) else (foghornlaw20_MendNever.j4 kj39 a0 l2 true t303 t304 t307)) else (foghornlaw20_MendNever.j4 kj39 a0 l2 true t303 t304 t307)))))) = some r := by rw [if_neg (show ¬ (false = true) by decide)] at H; exact H
                    clear H
                    have H := H1
                    clear H1
                    by_cases c44 : t310 = 9
                    · rw [if_pos c44] at H
                      have c44b0 : (t310 == 9) = true := beq_iff_eq.mpr c44
                      have c44b1 : (t310 != 9) = false := bne_eq_false_iff_eq.mpr c44
                      clear c44
                      by_cases c45 : t314 = true
                      · subst c45
                        have H1 : (some false) = some r := by rw [if_pos rfl] at H; exact H
                        clear H
                        have H := H1
                        clear H1
                        obtain rfl := Option.some.inj H
                        go_wp2
                        repeat (go_quiet (fail); try go_wp2)
                        go_ret
                        exact ⟨by first | rfl | (simp [errW_none, errW_some] <;> rfl) | (simp [*, errW_none, errW_some] <;> rfl), by repeat (first | (with_reducible first | exact HB.out | apply below_alloc | apply pw_below_drewN | apply below_drew1 | refine below_set ?_ GE311.out) | exact HB.out)⟩
                      · replace c45 := Bool.eq_false_iff.mpr c45
                        subst c45
                        have H1 : (if t303.toList = ([] : List UInt8) then (some ((wrap64 ((t304.length : Int) + (t307.length : Int))) == 0)) else (some false)) = some r := by rw [if_neg (show ¬ (false = true) by decide)] at H; exact H
                        clear H
                        have H := H1
                        clear H1
                        by_cases c46 : t303.toList = ([] : List UInt8)
                        · rw [if_pos c46] at H
                          have c46b0 : (t303.toList == ([] : List UInt8)) = true := beq_iff_eq.mpr c46
                          have c46b1 : (t303.toList != ([] : List UInt8)) = false := bne_eq_false_iff_eq.mpr c46
                          clear c46
                          obtain rfl := Option.some.inj H
                          have hcz47_0 : wc.cell? ⟨gb311, 0, none⟩ = some (.string t303) := (blk_cell BK311.out 0).trans rfl
                          have hcz47_1 : wc.cell? ⟨gb311, 1, none⟩ = some (.slice Ao27 t304.length co27) := (blk_cell BK311.out 1).trans rfl
                          have hcz47_2 : wc.cell? ⟨gb311, 2, none⟩ = some (.slice Ao28 t307.length co28) := (blk_cell BK311.out 2).trans rfl
                          have hfz47_0 := blk_frozen BK311.out 0
                          have hfz47_1 := blk_frozen BK311.out 1
                          have hfz47_2 := blk_frozen BK311.out 2
                          go_wp2
                          repeat (go_quiet (fail); try go_wp2)
                          go_ret
                          exact ⟨by first | rfl | (simp [errW_none, errW_some] <;> rfl) | (simp [*, errW_none, errW_some] <;> rfl), by repeat (first | (with_reducible first | exact HB.out | apply below_alloc | apply pw_below_drewN | apply below_drew1 | refine below_set ?_ GE311.out) | exact HB.out)⟩
                        · rw [if_neg c46] at H
                          have c46b0 : (t303.toList == ([] : List UInt8)) = false := beq_eq_false_iff_ne.mpr c46
                          have c46b1 : (t303.toList != ([] : List UInt8)) = true := bne_iff_ne.mpr c46
                          obtain rfl := Option.some.inj H
                          have hcz48_0 : wc.cell? ⟨gb311, 0, none⟩ = some (.string t303) := (blk_cell BK311.out 0).trans rfl
                          have hcz48_1 : wc.cell? ⟨gb311, 1, none⟩ = some (.slice Ao27 t304.length co27) := (blk_cell BK311.out 1).trans rfl
                          have hcz48_2 : wc.cell? ⟨gb311, 2, none⟩ = some (.slice Ao28 t307.length co28) := (blk_cell BK311.out 2).trans rfl
                          have hfz48_0 := blk_frozen BK311.out 0
                          have hfz48_1 := blk_frozen BK311.out 1
                          have hfz48_2 := blk_frozen BK311.out 2
                          go_wp2
                          repeat (go_quiet (fail); try go_wp2)
                          go_ret
                          exact ⟨by first | rfl | (simp [errW_none, errW_some] <;> rfl) | (simp [*, errW_none, errW_some] <;> rfl), by repeat (first | (with_reducible first | exact HB.out | apply below_alloc | apply pw_below_drewN | apply below_drew1 | refine below_set ?_ GE311.out) | exact HB.out)⟩
                    · rw [if_neg c44] at H
                      have c44b0 : (t310 == 9) = false := beq_eq_false_iff_ne.mpr c44
                      have c44b1 : (t310 != 9) = true := bne_iff_ne.mpr c44
                      replace H := Option.bind_eq_some_iff.mp H
                      obtain ⟨⟨t316, t317⟩, A490, H⟩ := H
                      replace H : ((mend_Within.f kj39 a0 t303 a1 l2).bind fun bt318 => ((mend_Mend.f kj39 t303 a1 l2).bind fun bt320 => (if t310 = 0 then (if t317 = 0 then (if bt318.2 = 0 then (if bt320.2.2.2 = 0 then (if t316 = true then (if bt318.1 = true then (if bt320.1.toList = t303.toList then (if (bt320.2.1.length : Int) = 0 then (if (t307.length : Int) = (l2.length : Int) then (if (wrap64 ((wrap64 (2 * (t304.length : Int))) + (l2.length : Int))) > a1 then (foghornlaw20_MendNever.j4 kj39 a0 l2 true t303 t304 t307) else (if t314 = true then (foghornlaw20_MendNever.j4 kj39 a0 l2 (x11_29.toList != t303.toList) t303 t304 t307) else (foghornlaw20_MendNever.j4 kj39 a0 l2 false t303 t304 t307))) else (foghornlaw20_MendNever.j4 kj39 a0 l2 true t303 t304 t307)) else (foghornlaw20_MendNever.j4 kj39 a0 l2 true t303 t304 t307)) else (foghornlaw20_MendNever.j4 kj39 a0 l2 true t303 t304 t307)) else (foghornlaw20_MendNever.j4 kj39 a0 l2 true t303 t304 t307)) else (foghornlaw20_MendNever.j4 kj39 a0 l2 true t303 t304 t307)) else (foghornlaw20_MendNever.j4 kj39 a0 l2 true t303 t304 t307)) else (foghornlaw20_MendNever.j4 kj39 a0 l2 true t303 t304 t307)) else (foghornlaw20_MendNever.j4 kj39 a0 l2 true t303 t304 t307)) else (foghornlaw20_MendNever.j4 kj39 a0 l2 true t303 t304 t307)))) = some r := H
                      have A49 := Aside0.mk A490
                      clear A490
                      replace H := Option.bind_eq_some_iff.mp H
                      obtain ⟨⟨t318, t319⟩, A500, H⟩ := H
                      replace H : ((mend_Mend.f kj39 t303 a1 l2).bind fun bt320 => (if t310 = 0 then (if t317 = 0 then (if t319 = 0 then (if bt320.2.2.2 = 0 then (if t316 = true then (if t318 = true then (if bt320.1.toList = t303.toList then (if (bt320.2.1.length : Int) = 0 then (if (t307.length : Int) = (l2.length : Int) then (if (wrap64 ((wrap64 (2 * (t304.length : Int))) + (l2.length : Int))) > a1 then (foghornlaw20_MendNever.j4 kj39 a0 l2 true t303 t304 t307) else (if t314 = true then (foghornlaw20_MendNever.j4 kj39 a0 l2 (x11_29.toList != t303.toList) t303 t304 t307) else (foghornlaw20_MendNever.j4 kj39 a0 l2 false t303 t304 t307))) else (foghornlaw20_MendNever.j4 kj39 a0 l2 true t303 t304 t307)) else (foghornlaw20_MendNever.j4 kj39 a0 l2 true t303 t304 t307)) else (foghornlaw20_MendNever.j4 kj39 a0 l2 true t303 t304 t307)) else (foghornlaw20_MendNever.j4 kj39 a0 l2 true t303 t304 t307)) else (foghornlaw20_MendNever.j4 kj39 a0 l2 true t303 t304 t307)) else (foghornlaw20_MendNever.j4 kj39 a0 l2 true t303 t304 t307)) else (foghornlaw20_MendNever.j4 kj39 a0 l2 true t303 t304 t307)) else (foghornlaw20_MendNever.j4 kj39 a0 l2 true t303 t304 t307)) else (foghornlaw20_MendNever.j4 kj39 a0 l2 true t303 t304 t307))) = some r := H
                      have A50 := Aside0.mk A500
                      clear A500
                      replace H := Option.bind_eq_some_iff.mp H
                      obtain ⟨⟨t320, t321, t324, t327⟩, A510, H⟩ := H
                      replace H : (if t310 = 0 then (if t317 = 0 then (if t319 = 0 then (if t327 = 0 then (if t316 = true then (if t318 = true then (if t320.toList = t303.toList then (if (t321.length : Int) = 0 then (if (t307.length : Int) = (l2.length : Int) then (if (wrap64 ((wrap64 (2 * (t304.length : Int))) + (l2.length : Int))) > a1 then (foghornlaw20_MendNever.j4 kj39 a0 l2 true t303 t304 t307) else (if t314 = true then (foghornlaw20_MendNever.j4 kj39 a0 l2 (x11_29.toList != t303.toList) t303 t304 t307) else (foghornlaw20_MendNever.j4 kj39 a0 l2 false t303 t304 t307))) else (foghornlaw20_MendNever.j4 kj39 a0 l2 true t303 t304 t307)) else (foghornlaw20_MendNever.j4 kj39 a0 l2 true t303 t304 t307)) else (foghornlaw20_MendNever.j4 kj39 a0 l2 true t303 t304 t307)) else (foghornlaw20_MendNever.j4 kj39 a0 l2 true t303 t304 t307)) else (foghornlaw20_MendNever.j4 kj39 a0 l2 true t303 t304 t307)) else (foghornlaw20_MendNever.j4 kj39 a0 l2 true t303 t304 t307)) else (foghornlaw20_MendNever.j4 kj39 a0 l2 true t303 t304 t307)) else (foghornlaw20_MendNever.j4 kj39 a0 l2 true t303 t304 t307)) else (foghornlaw20_MendNever.j4 kj39 a0 l2 true t303 t304 t307)) = some r := H
                      have A51 := Aside0.mk A510
                      clear A510
                      have HC52 := Aside0.mk H
                      clear H
                      have hcz53_0 : wc.cell? ⟨gb311, 0, none⟩ = some (.string t303) := (blk_cell BK311.out 0).trans rfl
                      have hcz53_1 : wc.cell? ⟨gb311, 1, none⟩ = some (.slice Ao27 t304.length co27) := (blk_cell BK311.out 1).trans rfl
                      have hcz53_2 : wc.cell? ⟨gb311, 2, none⟩ = some (.slice Ao28 t307.length co28) := (blk_cell BK311.out 2).trans rfl
                      have hfz53_0 := blk_frozen BK311.out 0
                      have hfz53_1 := blk_frozen BK311.out 1
                      have hfz53_2 := blk_frozen BK311.out 2
                      go_upto_region 19 with (first | (go_at_call 15; (with_reducible refine (reed_Whole.calls kj39 t303 a1 t316 t317 _ A49.out).mono ?_); rintro e w54 ⟨rfl, hb⟩; have n0_ := Aside0.mk (Kd.R_below (by (with_reducible repeat (first | apply Kd.R_alloc | apply Kd.R_drewN | apply Kd.R_drew)); exact HO_312001.out) hb); have n1_ := Aside0.mk (Kd.R_below (by (with_reducible repeat (first | apply Kd.R_alloc | apply Kd.R_drewN | apply Kd.R_drew)); exact HO_312002.out) hb); have n2_ := Aside0.mk (blk_below (g := gb311) (o := .cells #[.string t303, .slice Ao27 t304.length co27, .slice Ao28 t307.length co28] 31 (0, 0)) (by (with_reducible repeat (first | refine blk_drewN ?_ _ | refine blk_drew ?_ | refine blk_alloc ?_ _)); exact BK311.out) hb); have n3_ := Aside0.mk (below_step (by repeat (first | (with_reducible first | exact HB.out | apply below_alloc | apply pw_below_drewN | apply below_drew1 | refine below_set ?_ GE311.out) | exact HB.out)) hb); clear HO_312001; clear HO_312002; clear BK311; clear HB; have HO_312001 := n0_; have HO_312002 := n1_; have BK311 := n2_; have HB := n3_; clear n0_ n1_ n2_ n3_; (try clear hb); (try clear hb2); (try clear hk); (try clear hi); have hcz55_0 : w54.cell? ⟨gb311, 0, none⟩ = some (.string t303) := (blk_cell BK311.out 0).trans rfl; have hcz55_1 : w54.cell? ⟨gb311, 1, none⟩ = some (.slice Ao27 t304.length co27) := (blk_cell BK311.out 1).trans rfl; have hcz55_2 : w54.cell? ⟨gb311, 2, none⟩ = some (.slice Ao28 t307.length co28) := (blk_cell BK311.out 2).trans rfl; have hfz55_0 := blk_frozen BK311.out 0; have hfz55_1 := blk_frozen BK311.out 1; have hfz55_2 := blk_frozen BK311.out 2) | (go_at_call 14; (with_reducible refine (mend_Within.calls kj39 a0 t303 a1 _ _ l2 t318 t319 _ ?side1 ?side2 A50.out).mono ?_); (case side1 => repeat (first | exact (Kd.C_below HR2.out HB.out) | (with_reducible refine Kd.C_alloc ?_ _) | (with_reducible refine Kd.C_drewN ?_ _) | (with_reducible refine Kd.C_drew ?_))); (case side2 => exact HC2.out); rintro e w56 ⟨rfl, hb⟩; have n0_ := Aside0.mk (Kd.R_below (by (with_reducible repeat (first | apply Kd.R_alloc | apply Kd.R_drewN | apply Kd.R_drew)); exact HO_312001.out) hb); have n1_ := Aside0.mk (Kd.R_below (by (with_reducible repeat (first | apply Kd.R_alloc | apply Kd.R_drewN | apply Kd.R_drew)); exact HO_312002.out) hb); have n2_ := Aside0.mk (blk_below (g := gb311) (o := .cells #[.string t303, .slice Ao27 t304.length co27, .slice Ao28 t307.length co28] 31 (0, 0)) (by (with_reducible repeat (first | refine blk_drewN ?_ _ | refine blk_drew ?_ | refine blk_alloc ?_ _)); exact BK311.out) hb); have n3_ := Aside0.mk (below_step (by repeat (first | (with_reducible first | exact HB.out | apply below_alloc | apply pw_below_drewN | apply below_drew1 | refine below_set ?_ GE311.out) | exact HB.out)) hb); clear HO_312001; clear HO_312002; clear BK311; clear HB; have HO_312001 := n0_; have HO_312002 := n1_; have BK311 := n2_; have HB := n3_; clear n0_ n1_ n2_ n3_; (try clear hb); (try clear hb2); (try clear hk); (try clear hi); have hcz57_0 : w56.cell? ⟨gb311, 0, none⟩ = some (.string t303) := (blk_cell BK311.out 0).trans rfl; have hcz57_1 : w56.cell? ⟨gb311, 1, none⟩ = some (.slice Ao27 t304.length co27) := (blk_cell BK311.out 1).trans rfl; have hcz57_2 : w56.cell? ⟨gb311, 2, none⟩ = some (.slice Ao28 t307.length co28) := (blk_cell BK311.out 2).trans rfl; have hfz57_0 := blk_frozen BK311.out 0; have hfz57_1 := blk_frozen BK311.out 1; have hfz57_2 := blk_frozen BK311.out 2) | (go_at_call 11; (with_reducible refine (mend_Mend.calls kj39 t303 a1 _ _ l2 t320 t321 t324 t327 _ ?side1 ?side2 A51.out).mono ?_); (case side1 => repeat (first | exact (Kd.C_below HR2.out HB.out) | (with_reducible refine Kd.C_alloc ?_ _) | (with_reducible refine Kd.C_drewN ?_ _) | (with_reducible refine Kd.C_drew ?_))); (case side2 => exact HC2.out); rintro e w58 ⟨v322, v325, rfl, ho0, ho1, hb⟩; have n0_ := Aside0.mk (Kd.R_mono (Kd.R_told (Kd.R_told (Kd.R_old (by (with_reducible repeat (first | apply Kd.R_alloc | apply Kd.R_drewN | apply Kd.R_drew)); exact HO_312001.out) hb) (Kd.R_base ho0)) (Kd.R_base ho1)) (fun _ h_ => h_.1)); have n1_ := Aside0.mk (Kd.R_mono (Kd.R_told (Kd.R_told (Kd.R_old (by (with_reducible repeat (first | apply Kd.R_alloc | apply Kd.R_drewN | apply Kd.R_drew)); exact HO_312002.out) hb) (Kd.R_base ho0)) (Kd.R_base ho1)) (fun _ h_ => h_.1)); have n2_ := Aside0.mk (Kd.R_lower (Kd.R_new' (Kd.R_new' ho0 (Kd.R_lt (by (with_reducible repeat (first | apply Kd.R_alloc | apply Kd.R_drewN | apply Kd.R_drew)); exact HO_312001.out))) (Kd.R_lt (by (with_reducible repeat (first | apply Kd.R_alloc | apply Kd.R_drewN | apply Kd.R_drew)); exact HO_312002.out))) (below_size (by repeat (first | (with_reducible first | exact HB.out | apply below_alloc | apply pw_below_drewN | apply below_drew1 | refine below_set ?_ GE311.out) | exact HB.out)))); have n3_ := Aside0.mk (Kd.R_lower (Kd.R_new' (Kd.R_new' ho1 (Kd.R_lt (by (with_reducible repeat (first | apply Kd.R_alloc | apply Kd.R_drewN | apply Kd.R_drew)); exact HO_312001.out))) (Kd.R_lt (by (with_reducible repeat (first | apply Kd.R_alloc | apply Kd.R_drewN | apply Kd.R_drew)); exact HO_312002.out))) (below_size (by repeat (first | (with_reducible first | exact HB.out | apply below_alloc | apply pw_below_drewN | apply below_drew1 | refine below_set ?_ GE311.out) | exact HB.out)))); have n4_ := Aside0.mk (blk_below (g := gb311) (o := .cells #[.string t303, .slice Ao27 t304.length co27, .slice Ao28 t307.length co28] 31 (0, 0)) (by (with_reducible repeat (first | refine blk_drewN ?_ _ | refine blk_drew ?_ | refine blk_alloc ?_ _)); exact BK311.out) hb); have n5_ := Aside0.mk (below_step (by repeat (first | (with_reducible first | exact HB.out | apply below_alloc | apply pw_below_drewN | apply below_drew1 | refine below_set ?_ GE311.out) | exact HB.out)) hb); clear HO_312001; clear HO_312002; clear BK311; clear HB; have HO_312001 := n0_; have HO_312002 := n1_; have HO323 := n2_; have HO326 := n3_; have BK311 := n4_; have HB := n5_; clear n0_ n1_ n2_ n3_ n4_ n5_; (try clear hb); (try clear hb2); (try clear hk); (try clear hi); (try clear ho0); (try clear ho1)) | ((with_reducible refine gate_dst (N := 18) rfl ?_); refine box_event ?hg (N := 18) ?hd (cs := #[.string (⟨#[]⟩ : ByteArray), .slice none 0 0, .slice none 0 0]) (t := 31) ?hr ?_; (case hd => rfl); (case hg => rfl); (case hr => first | (go_simp; done) | (go_simp; rfl)); intro gb328 hg w59 hbox hb; have n0_ := Aside0.mk (Kd.R_below (by (with_reducible repeat (first | apply Kd.R_alloc | apply Kd.R_drewN | apply Kd.R_drew)); exact HO_312001.out) hb); have n1_ := Aside0.mk (Kd.R_below (by (with_reducible repeat (first | apply Kd.R_alloc | apply Kd.R_drewN | apply Kd.R_drew)); exact HO_312002.out) hb); have n2_ := Aside0.mk (Kd.R_below (by (with_reducible repeat (first | apply Kd.R_alloc | apply Kd.R_drewN | apply Kd.R_drew)); exact HO323.out) hb); have n3_ := Aside0.mk (Kd.R_below (by (with_reducible repeat (first | apply Kd.R_alloc | apply Kd.R_drewN | apply Kd.R_drew)); exact HO326.out) hb); have n4_ := Aside0.mk (blk_below (g := gb311) (o := .cells #[.string t303, .slice Ao27 t304.length co27, .slice Ao28 t307.length co28] 31 (0, 0)) (by (with_reducible repeat (first | refine blk_drewN ?_ _ | refine blk_drew ?_ | refine blk_alloc ?_ _)); exact BK311.out) hb); have n5_ := Aside0.mk (below_step (by repeat (first | (with_reducible first | exact HB.out | apply below_alloc | apply pw_below_drewN | apply below_drew1 | refine below_set ?_ GE311.out) | exact HB.out)) hb); have n6_ := Aside0.mk (hbox); have n7_ := Aside0.mk ((by rw [hg]; exact (below_size (by repeat (first | (with_reducible first | exact HB.out | apply below_alloc | apply pw_below_drewN | apply below_drew1 | refine below_set ?_ GE311.out) | exact HB.out))) : w.heap.size ≤ gb328)); have n8_ := Aside0.mk ((by rw [hg]; exact (below_size (by repeat (first | (with_reducible first | exact HB.out | apply below_alloc | apply pw_below_drewN | apply below_drew1 | refine below_set ?_ GE311.out) | exact HB.out))) : w.heap.size ≤ gb328)); have n9_ := Aside0.mk ((by rw [hg]; exact Nat.ne_of_lt (blk_lt (g := gb311) (o := .cells #[.string t303, .slice Ao27 t304.length co27, .slice Ao28 t307.length co28] 31 (0, 0)) (by (with_reducible repeat (first | refine blk_drewN ?_ _ | refine blk_drew ?_ | refine blk_alloc ?_ _)); exact BK311.out)) : gb311 ≠ gb328)); have n10_ := Aside0.mk ((by rw [hg]; exact Nat.ne_of_gt (blk_lt (g := gb311) (o := .cells #[.string t303, .slice Ao27 t304.length co27, .slice Ao28 t307.length co28] 31 (0, 0)) (by (with_reducible repeat (first | refine blk_drewN ?_ _ | refine blk_drew ?_ | refine blk_alloc ?_ _)); exact BK311.out)) : gb328 ≠ gb311)); clear HO_312001; clear HO_312002; clear HO323; clear HO326; clear BK311; clear HB; have HO_312001 := n0_; have HO_312002 := n1_; have HO323 := n2_; have HO326 := n3_; have BK311 := n4_; have HB := n5_; have BK328 := n6_; have GW328 := n7_; have GE328 := n8_; have NB311_328 := n9_; have NB328_311 := n10_; clear n0_ n1_ n2_ n3_ n4_ n5_ n6_ n7_ n8_ n9_ n10_; clear hb hbox hg; have hnb60 := NB328_311.out; have hnc60 := NB311_328.out; have hcz61_0 : w59.cell? ⟨gb328, 0, none⟩ = some (.string (⟨#[]⟩ : ByteArray)) := (blk_cell BK328.out 0).trans rfl; have hcz61_1 : w59.cell? ⟨gb328, 1, none⟩ = some (.slice none 0 0) := (blk_cell BK328.out 1).trans rfl; have hcz61_2 : w59.cell? ⟨gb328, 2, none⟩ = some (.slice none 0 0) := (blk_cell BK328.out 2).trans rfl; have hfz61_0 := blk_frozen BK328.out 0; have hfz61_1 := blk_frozen BK328.out 1; have hfz61_2 := blk_frozen BK328.out 2; obtain ⟨Ao62, co62, eo62⟩ := Kd.R_slice HO323.out; subst eo62; obtain ⟨Ao63, co63, eo63⟩ := Kd.R_slice HO326.out; subst eo63))
                      repeat (go_quiet (first | (go_at_call 15; (with_reducible refine (reed_Whole.calls kj39 t303 a1 t316 t317 _ A49.out).mono ?_); rintro e w54 ⟨rfl, hb⟩; have n0_ := Aside0.mk (Kd.R_below (by (with_reducible repeat (first | apply Kd.R_alloc | apply Kd.R_drewN | apply Kd.R_drew)); exact HO_312001.out) hb); have n1_ := Aside0.mk (Kd.R_below (by (with_reducible repeat (first | apply Kd.R_alloc | apply Kd.R_drewN | apply Kd.R_drew)); exact HO_312002.out) hb); have n2_ := Aside0.mk (blk_below (g := gb311) (o := .cells #[.string t303, .slice Ao27 t304.length co27, .slice Ao28 t307.length co28] 31 (0, 0)) (by (with_reducible repeat (first | refine blk_drewN ?_ _ | refine blk_drew ?_ | refine blk_alloc ?_ _)); exact BK311.out) hb); have n3_ := Aside0.mk (below_step (by repeat (first | (with_reducible first | exact HB.out | apply below_alloc | apply pw_below_drewN | apply below_drew1 | refine below_set ?_ GE311.out) | exact HB.out)) hb); clear HO_312001; clear HO_312002; clear BK311; clear HB; have HO_312001 := n0_; have HO_312002 := n1_; have BK311 := n2_; have HB := n3_; clear n0_ n1_ n2_ n3_; (try clear hb); (try clear hb2); (try clear hk); (try clear hi); have hcz55_0 : w54.cell? ⟨gb311, 0, none⟩ = some (.string t303) := (blk_cell BK311.out 0).trans rfl; have hcz55_1 : w54.cell? ⟨gb311, 1, none⟩ = some (.slice Ao27 t304.length co27) := (blk_cell BK311.out 1).trans rfl; have hcz55_2 : w54.cell? ⟨gb311, 2, none⟩ = some (.slice Ao28 t307.length co28) := (blk_cell BK311.out 2).trans rfl; have hfz55_0 := blk_frozen BK311.out 0; have hfz55_1 := blk_frozen BK311.out 1; have hfz55_2 := blk_frozen BK311.out 2) | (go_at_call 14; (with_reducible refine (mend_Within.calls kj39 a0 t303 a1 _ _ l2 t318 t319 _ ?side1 ?side2 A50.out).mono ?_); (case side1 => repeat (first | exact (Kd.C_below HR2.out HB.out) | (with_reducible refine Kd.C_alloc ?_ _) | (with_reducible refine Kd.C_drewN ?_ _) | (with_reducible refine Kd.C_drew ?_))); (case side2 => exact HC2.out); rintro e w56 ⟨rfl, hb⟩; have n0_ := Aside0.mk (Kd.R_below (by (with_reducible repeat (first | apply Kd.R_alloc | apply Kd.R_drewN | apply Kd.R_drew)); exact HO_312001.out) hb); have n1_ := Aside0.mk (Kd.R_below (by (with_reducible repeat (first | apply Kd.R_alloc | apply Kd.R_drewN | apply Kd.R_drew)); exact HO_312002.out) hb); have n2_ := Aside0.mk (blk_below (g := gb311) (o := .cells #[.string t303, .slice Ao27 t304.length co27, .slice Ao28 t307.length co28] 31 (0, 0)) (by (with_reducible repeat (first | refine blk_drewN ?_ _ | refine blk_drew ?_ | refine blk_alloc ?_ _)); exact BK311.out) hb); have n3_ := Aside0.mk (below_step (by repeat (first | (with_reducible first | exact HB.out | apply below_alloc | apply pw_below_drewN | apply below_drew1 | refine below_set ?_ GE311.out) | exact HB.out)) hb); clear HO_312001; clear HO_312002; clear BK311; clear HB; have HO_312001 := n0_; have HO_312002 := n1_; have BK311 := n2_; have HB := n3_; clear n0_ n1_ n2_ n3_; (try clear hb); (try clear hb2); (try clear hk); (try clear hi); have hcz57_0 : w56.cell? ⟨gb311, 0, none⟩ = some (.string t303) := (blk_cell BK311.out 0).trans rfl; have hcz57_1 : w56.cell? ⟨gb311, 1, none⟩ = some (.slice Ao27 t304.length co27) := (blk_cell BK311.out 1).trans rfl; have hcz57_2 : w56.cell? ⟨gb311, 2, none⟩ = some (.slice Ao28 t307.length co28) := (blk_cell BK311.out 2).trans rfl; have hfz57_0 := blk_frozen BK311.out 0; have hfz57_1 := blk_frozen BK311.out 1; have hfz57_2 := blk_frozen BK311.out 2) | (go_at_call 11; (with_reducible refine (mend_Mend.calls kj39 t303 a1 _ _ l2 t320 t321 t324 t327 _ ?side1 ?side2 A51.out).mono ?_); (case side1 => repeat (first | exact (Kd.C_below HR2.out HB.out) | (with_reducible refine Kd.C_alloc ?_ _) | (with_reducible refine Kd.C_drewN ?_ _) | (with_reducible refine Kd.C_drew ?_))); (case side2 => exact HC2.out); rintro e w58 ⟨v322, v325, rfl, ho0, ho1, hb⟩; have n0_ := Aside0.mk (Kd.R_mono (Kd.R_told (Kd.R_told (Kd.R_old (by (with_reducible repeat (first | apply Kd.R_alloc | apply Kd.R_drewN | apply Kd.R_drew)); exact HO_312001.out) hb) (Kd.R_base ho0)) (Kd.R_base ho1)) (fun _ h_ => h_.1)); have n1_ := Aside0.mk (Kd.R_mono (Kd.R_told (Kd.R_told (Kd.R_old (by (with_reducible repeat (first | apply Kd.R_alloc | apply Kd.R_drewN | apply Kd.R_drew)); exact HO_312002.out) hb) (Kd.R_base ho0)) (Kd.R_base ho1)) (fun _ h_ => h_.1)); have n2_ := Aside0.mk (Kd.R_lower (Kd.R_new' (Kd.R_new' ho0 (Kd.R_lt (by (with_reducible repeat (first | apply Kd.R_alloc | apply Kd.R_drewN | apply Kd.R_drew)); exact HO_312001.out))) (Kd.R_lt (by (with_reducible repeat (first | apply Kd.R_alloc | apply Kd.R_drewN | apply Kd.R_drew)); exact HO_312002.out))) (below_size (by repeat (first | (with_reducible first | exact HB.out | apply below_alloc | apply pw_below_drewN | apply below_drew1 | refine below_set ?_ GE311.out) | exact HB.out)))); have n3_ := Aside0.mk (Kd.R_lower (Kd.R_new' (Kd.R_new' ho1 (Kd.R_lt (by (with_reducible repeat (first | apply Kd.R_alloc | apply Kd.R_drewN | apply Kd.R_drew)); exact HO_312001.out))) (Kd.R_lt (by (with_reducible repeat (first | apply Kd.R_alloc | apply Kd.R_drewN | apply Kd.R_drew)); exact HO_312002.out))) (below_size (by repeat (first | (with_reducible first | exact HB.out | apply below_alloc | apply pw_below_drewN | apply below_drew1 | refine below_set ?_ GE311.out) | exact HB.out)))); have n4_ := Aside0.mk (blk_below (g := gb311) (o := .cells #[.string t303, .slice Ao27 t304.length co27, .slice Ao28 t307.length co28] 31 (0, 0)) (by (with_reducible repeat (first | refine blk_drewN ?_ _ | refine blk_drew ?_ | refine blk_alloc ?_ _)); exact BK311.out) hb); have n5_ := Aside0.mk (below_step (by repeat (first | (with_reducible first | exact HB.out | apply below_alloc | apply pw_below_drewN | apply below_drew1 | refine below_set ?_ GE311.out) | exact HB.out)) hb); clear HO_312001; clear HO_312002; clear BK311; clear HB; have HO_312001 := n0_; have HO_312002 := n1_; have HO323 := n2_; have HO326 := n3_; have BK311 := n4_; have HB := n5_; clear n0_ n1_ n2_ n3_ n4_ n5_; (try clear hb); (try clear hb2); (try clear hk); (try clear hi); (try clear ho0); (try clear ho1)) | ((with_reducible refine gate_dst (N := 18) rfl ?_); refine box_event ?hg (N := 18) ?hd (cs := #[.string (⟨#[]⟩ : ByteArray), .slice none 0 0, .slice none 0 0]) (t := 31) ?hr ?_; (case hd => rfl); (case hg => rfl); (case hr => first | (go_simp; done) | (go_simp; rfl)); intro gb328 hg w59 hbox hb; have n0_ := Aside0.mk (Kd.R_below (by (with_reducible repeat (first | apply Kd.R_alloc | apply Kd.R_drewN | apply Kd.R_drew)); exact HO_312001.out) hb); have n1_ := Aside0.mk (Kd.R_below (by (with_reducible repeat (first | apply Kd.R_alloc | apply Kd.R_drewN | apply Kd.R_drew)); exact HO_312002.out) hb); have n2_ := Aside0.mk (Kd.R_below (by (with_reducible repeat (first | apply Kd.R_alloc | apply Kd.R_drewN | apply Kd.R_drew)); exact HO323.out) hb); have n3_ := Aside0.mk (Kd.R_below (by (with_reducible repeat (first | apply Kd.R_alloc | apply Kd.R_drewN | apply Kd.R_drew)); exact HO326.out) hb); have n4_ := Aside0.mk (blk_below (g := gb311) (o := .cells #[.string t303, .slice Ao27 t304.length co27, .slice Ao28 t307.length co28] 31 (0, 0)) (by (with_reducible repeat (first | refine blk_drewN ?_ _ | refine blk_drew ?_ | refine blk_alloc ?_ _)); exact BK311.out) hb); have n5_ := Aside0.mk (below_step (by repeat (first | (with_reducible first | exact HB.out | apply below_alloc | apply pw_below_drewN | apply below_drew1 | refine below_set ?_ GE311.out) | exact HB.out)) hb); have n6_ := Aside0.mk (hbox); have n7_ := Aside0.mk ((by rw [hg]; exact (below_size (by repeat (first | (with_reducible first | exact HB.out | apply below_alloc | apply pw_below_drewN | apply below_drew1 | refine below_set ?_ GE311.out) | exact HB.out))) : w.heap.size ≤ gb328)); have n8_ := Aside0.mk ((by rw [hg]; exact (below_size (by repeat (first | (with_reducible first | exact HB.out | apply below_alloc | apply pw_below_drewN | apply below_drew1 | refine below_set ?_ GE311.out) | exact HB.out))) : w.heap.size ≤ gb328)); have n9_ := Aside0.mk ((by rw [hg]; exact Nat.ne_of_lt (blk_lt (g := gb311) (o := .cells #[.string t303, .slice Ao27 t304.length co27, .slice Ao28 t307.length co28] 31 (0, 0)) (by (with_reducible repeat (first | refine blk_drewN ?_ _ | refine blk_drew ?_ | refine blk_alloc ?_ _)); exact BK311.out)) : gb311 ≠ gb328)); have n10_ := Aside0.mk ((by rw [hg]; exact Nat.ne_of_gt (blk_lt (g := gb311) (o := .cells #[.string t303, .slice Ao27 t304.length co27, .slice Ao28 t307.length co28] 31 (0, 0)) (by (with_reducible repeat (first | refine blk_drewN ?_ _ | refine blk_drew ?_ | refine blk_alloc ?_ _)); exact BK311.out)) : gb328 ≠ gb311)); clear HO_312001; clear HO_312002; clear HO323; clear HO326; clear BK311; clear HB; have HO_312001 := n0_; have HO_312002 := n1_; have HO323 := n2_; have HO326 := n3_; have BK311 := n4_; have HB := n5_; have BK328 := n6_; have GW328 := n7_; have GE328 := n8_; have NB311_328 := n9_; have NB328_311 := n10_; clear n0_ n1_ n2_ n3_ n4_ n5_ n6_ n7_ n8_ n9_ n10_; clear hb hbox hg; have hnb60 := NB328_311.out; have hnc60 := NB311_328.out; have hcz61_0 : w59.cell? ⟨gb328, 0, none⟩ = some (.string (⟨#[]⟩ : ByteArray)) := (blk_cell BK328.out 0).trans rfl; have hcz61_1 : w59.cell? ⟨gb328, 1, none⟩ = some (.slice none 0 0) := (blk_cell BK328.out 1).trans rfl; have hcz61_2 : w59.cell? ⟨gb328, 2, none⟩ = some (.slice none 0 0) := (blk_cell BK328.out 2).trans rfl; have hfz61_0 := blk_frozen BK328.out 0; have hfz61_1 := blk_frozen BK328.out 1; have hfz61_2 := blk_frozen BK328.out 2; obtain ⟨Ao62, co62, eo62⟩ := Kd.R_slice HO323.out; subst eo62; obtain ⟨Ao63, co63, eo63⟩ := Kd.R_slice HO326.out; subst eo63)); go_upto_region 19 with (first | (go_at_call 15; (with_reducible refine (reed_Whole.calls kj39 t303 a1 t316 t317 _ A49.out).mono ?_); rintro e w54 ⟨rfl, hb⟩; have n0_ := Aside0.mk (Kd.R_below (by (with_reducible repeat (first | apply Kd.R_alloc | apply Kd.R_drewN | apply Kd.R_drew)); exact HO_312001.out) hb); have n1_ := Aside0.mk (Kd.R_below (by (with_reducible repeat (first | apply Kd.R_alloc | apply Kd.R_drewN | apply Kd.R_drew)); exact HO_312002.out) hb); have n2_ := Aside0.mk (blk_below (g := gb311) (o := .cells #[.string t303, .slice Ao27 t304.length co27, .slice Ao28 t307.length co28] 31 (0, 0)) (by (with_reducible repeat (first | refine blk_drewN ?_ _ | refine blk_drew ?_ | refine blk_alloc ?_ _)); exact BK311.out) hb); have n3_ := Aside0.mk (below_step (by repeat (first | (with_reducible first | exact HB.out | apply below_alloc | apply pw_below_drewN | apply below_drew1 | refine below_set ?_ GE311.out) | exact HB.out)) hb); clear HO_312001; clear HO_312002; clear BK311; clear HB; have HO_312001 := n0_; have HO_312002 := n1_; have BK311 := n2_; have HB := n3_; clear n0_ n1_ n2_ n3_; (try clear hb); (try clear hb2); (try clear hk); (try clear hi); have hcz55_0 : w54.cell? ⟨gb311, 0, none⟩ = some (.string t303) := (blk_cell BK311.out 0).trans rfl; have hcz55_1 : w54.cell? ⟨gb311, 1, none⟩ = some (.slice Ao27 t304.length co27) := (blk_cell BK311.out 1).trans rfl; have hcz55_2 : w54.cell? ⟨gb311, 2, none⟩ = some (.slice Ao28 t307.length co28) := (blk_cell BK311.out 2).trans rfl; have hfz55_0 := blk_frozen BK311.out 0; have hfz55_1 := blk_frozen BK311.out 1; have hfz55_2 := blk_frozen BK311.out 2) | (go_at_call 14; (with_reducible refine (mend_Within.calls kj39 a0 t303 a1 _ _ l2 t318 t319 _ ?side1 ?side2 A50.out).mono ?_); (case side1 => repeat (first | exact (Kd.C_below HR2.out HB.out) | (with_reducible refine Kd.C_alloc ?_ _) | (with_reducible refine Kd.C_drewN ?_ _) | (with_reducible refine Kd.C_drew ?_))); (case side2 => exact HC2.out); rintro e w56 ⟨rfl, hb⟩; have n0_ := Aside0.mk (Kd.R_below (by (with_reducible repeat (first | apply Kd.R_alloc | apply Kd.R_drewN | apply Kd.R_drew)); exact HO_312001.out) hb); have n1_ := Aside0.mk (Kd.R_below (by (with_reducible repeat (first | apply Kd.R_alloc | apply Kd.R_drewN | apply Kd.R_drew)); exact HO_312002.out) hb); have n2_ := Aside0.mk (blk_below (g := gb311) (o := .cells #[.string t303, .slice Ao27 t304.length co27, .slice Ao28 t307.length co28] 31 (0, 0)) (by (with_reducible repeat (first | refine blk_drewN ?_ _ | refine blk_drew ?_ | refine blk_alloc ?_ _)); exact BK311.out) hb); have n3_ := Aside0.mk (below_step (by repeat (first | (with_reducible first | exact HB.out | apply below_alloc | apply pw_below_drewN | apply below_drew1 | refine below_set ?_ GE311.out) | exact HB.out)) hb); clear HO_312001; clear HO_312002; clear BK311; clear HB; have HO_312001 := n0_; have HO_312002 := n1_; have BK311 := n2_; have HB := n3_; clear n0_ n1_ n2_ n3_; (try clear hb); (try clear hb2); (try clear hk); (try clear hi); have hcz57_0 : w56.cell? ⟨gb311, 0, none⟩ = some (.string t303) := (blk_cell BK311.out 0).trans rfl; have hcz57_1 : w56.cell? ⟨gb311, 1, none⟩ = some (.slice Ao27 t304.length co27) := (blk_cell BK311.out 1).trans rfl; have hcz57_2 : w56.cell? ⟨gb311, 2, none⟩ = some (.slice Ao28 t307.length co28) := (blk_cell BK311.out 2).trans rfl; have hfz57_0 := blk_frozen BK311.out 0; have hfz57_1 := blk_frozen BK311.out 1; have hfz57_2 := blk_frozen BK311.out 2) | (go_at_call 11; (with_reducible refine (mend_Mend.calls kj39 t303 a1 _ _ l2 t320 t321 t324 t327 _ ?side1 ?side2 A51.out).mono ?_); (case side1 => repeat (first | exact (Kd.C_below HR2.out HB.out) | (with_reducible refine Kd.C_alloc ?_ _) | (with_reducible refine Kd.C_drewN ?_ _) | (with_reducible refine Kd.C_drew ?_))); (case side2 => exact HC2.out); rintro e w58 ⟨v322, v325, rfl, ho0, ho1, hb⟩; have n0_ := Aside0.mk (Kd.R_mono (Kd.R_told (Kd.R_told (Kd.R_old (by (with_reducible repeat (first | apply Kd.R_alloc | apply Kd.R_drewN | apply Kd.R_drew)); exact HO_312001.out) hb) (Kd.R_base ho0)) (Kd.R_base ho1)) (fun _ h_ => h_.1)); have n1_ := Aside0.mk (Kd.R_mono (Kd.R_told (Kd.R_told (Kd.R_old (by (with_reducible repeat (first | apply Kd.R_alloc | apply Kd.R_drewN | apply Kd.R_drew)); exact HO_312002.out) hb) (Kd.R_base ho0)) (Kd.R_base ho1)) (fun _ h_ => h_.1)); have n2_ := Aside0.mk (Kd.R_lower (Kd.R_new' (Kd.R_new' ho0 (Kd.R_lt (by (with_reducible repeat (first | apply Kd.R_alloc | apply Kd.R_drewN | apply Kd.R_drew)); exact HO_312001.out))) (Kd.R_lt (by (with_reducible repeat (first | apply Kd.R_alloc | apply Kd.R_drewN | apply Kd.R_drew)); exact HO_312002.out))) (below_size (by repeat (first | (with_reducible first | exact HB.out | apply below_alloc | apply pw_below_drewN | apply below_drew1 | refine below_set ?_ GE311.out) | exact HB.out)))); have n3_ := Aside0.mk (Kd.R_lower (Kd.R_new' (Kd.R_new' ho1 (Kd.R_lt (by (with_reducible repeat (first | apply Kd.R_alloc | apply Kd.R_drewN | apply Kd.R_drew)); exact HO_312001.out))) (Kd.R_lt (by (with_reducible repeat (first | apply Kd.R_alloc | apply Kd.R_drewN | apply Kd.R_drew)); exact HO_312002.out))) (below_size (by repeat (first | (with_reducible first | exact HB.out | apply below_alloc | apply pw_below_drewN | apply below_drew1 | refine below_set ?_ GE311.out) | exact HB.out)))); have n4_ := Aside0.mk (blk_below (g := gb311) (o := .cells #[.string t303, .slice Ao27 t304.length co27, .slice Ao28 t307.length co28] 31 (0, 0)) (by (with_reducible repeat (first | refine blk_drewN ?_ _ | refine blk_drew ?_ | refine blk_alloc ?_ _)); exact BK311.out) hb); have n5_ := Aside0.mk (below_step (by repeat (first | (with_reducible first | exact HB.out | apply below_alloc | apply pw_below_drewN | apply below_drew1 | refine below_set ?_ GE311.out) | exact HB.out)) hb); clear HO_312001; clear HO_312002; clear BK311; clear HB; have HO_312001 := n0_; have HO_312002 := n1_; have HO323 := n2_; have HO326 := n3_; have BK311 := n4_; have HB := n5_; clear n0_ n1_ n2_ n3_ n4_ n5_; (try clear hb); (try clear hb2); (try clear hk); (try clear hi); (try clear ho0); (try clear ho1)) | ((with_reducible refine gate_dst (N := 18) rfl ?_); refine box_event ?hg (N := 18) ?hd (cs := #[.string (⟨#[]⟩ : ByteArray), .slice none 0 0, .slice none 0 0]) (t := 31) ?hr ?_; (case hd => rfl); (case hg => rfl); (case hr => first | (go_simp; done) | (go_simp; rfl)); intro gb328 hg w59 hbox hb; have n0_ := Aside0.mk (Kd.R_below (by (with_reducible repeat (first | apply Kd.R_alloc | apply Kd.R_drewN | apply Kd.R_drew)); exact HO_312001.out) hb); have n1_ := Aside0.mk (Kd.R_below (by (with_reducible repeat (first | apply Kd.R_alloc | apply Kd.R_drewN | apply Kd.R_drew)); exact HO_312002.out) hb); have n2_ := Aside0.mk (Kd.R_below (by (with_reducible repeat (first | apply Kd.R_alloc | apply Kd.R_drewN | apply Kd.R_drew)); exact HO323.out) hb); have n3_ := Aside0.mk (Kd.R_below (by (with_reducible repeat (first | apply Kd.R_alloc | apply Kd.R_drewN | apply Kd.R_drew)); exact HO326.out) hb); have n4_ := Aside0.mk (blk_below (g := gb311) (o := .cells #[.string t303, .slice Ao27 t304.length co27, .slice Ao28 t307.length co28] 31 (0, 0)) (by (with_reducible repeat (first | refine blk_drewN ?_ _ | refine blk_drew ?_ | refine blk_alloc ?_ _)); exact BK311.out) hb); have n5_ := Aside0.mk (below_step (by repeat (first | (with_reducible first | exact HB.out | apply below_alloc | apply pw_below_drewN | apply below_drew1 | refine below_set ?_ GE311.out) | exact HB.out)) hb); have n6_ := Aside0.mk (hbox); have n7_ := Aside0.mk ((by rw [hg]; exact (below_size (by repeat (first | (with_reducible first | exact HB.out | apply below_alloc | apply pw_below_drewN | apply below_drew1 | refine below_set ?_ GE311.out) | exact HB.out))) : w.heap.size ≤ gb328)); have n8_ := Aside0.mk ((by rw [hg]; exact (below_size (by repeat (first | (with_reducible first | exact HB.out | apply below_alloc | apply pw_below_drewN | apply below_drew1 | refine below_set ?_ GE311.out) | exact HB.out))) : w.heap.size ≤ gb328)); have n9_ := Aside0.mk ((by rw [hg]; exact Nat.ne_of_lt (blk_lt (g := gb311) (o := .cells #[.string t303, .slice Ao27 t304.length co27, .slice Ao28 t307.length co28] 31 (0, 0)) (by (with_reducible repeat (first | refine blk_drewN ?_ _ | refine blk_drew ?_ | refine blk_alloc ?_ _)); exact BK311.out)) : gb311 ≠ gb328)); have n10_ := Aside0.mk ((by rw [hg]; exact Nat.ne_of_gt (blk_lt (g := gb311) (o := .cells #[.string t303, .slice Ao27 t304.length co27, .slice Ao28 t307.length co28] 31 (0, 0)) (by (with_reducible repeat (first | refine blk_drewN ?_ _ | refine blk_drew ?_ | refine blk_alloc ?_ _)); exact BK311.out)) : gb328 ≠ gb311)); clear HO_312001; clear HO_312002; clear HO323; clear HO326; clear BK311; clear HB; have HO_312001 := n0_; have HO_312002 := n1_; have HO323 := n2_; have HO326 := n3_; have BK311 := n4_; have HB := n5_; have BK328 := n6_; have GW328 := n7_; have GE328 := n8_; have NB311_328 := n9_; have NB328_311 := n10_; clear n0_ n1_ n2_ n3_ n4_ n5_ n6_ n7_ n8_ n9_ n10_; clear hb hbox hg; have hnb60 := NB328_311.out; have hnc60 := NB311_328.out; have hcz61_0 : w59.cell? ⟨gb328, 0, none⟩ = some (.string (⟨#[]⟩ : ByteArray)) := (blk_cell BK328.out 0).trans rfl; have hcz61_1 : w59.cell? ⟨gb328, 1, none⟩ = some (.slice none 0 0) := (blk_cell BK328.out 1).trans rfl; have hcz61_2 : w59.cell? ⟨gb328, 2, none⟩ = some (.slice none 0 0) := (blk_cell BK328.out 2).trans rfl; have hfz61_0 := blk_frozen BK328.out 0; have hfz61_1 := blk_frozen BK328.out 1; have hfz61_2 := blk_frozen BK328.out 2; obtain ⟨Ao62, co62, eo62⟩ := Kd.R_slice HO323.out; subst eo62; obtain ⟨Ao63, co63, eo63⟩ := Kd.R_slice HO326.out; subst eo63)))
                      (try simp only [Act.put, List.setIfInBounds_toArray, List.set_cons_zero, List.set_cons_succ])
                      go_cut [198] (fun v198 wc => ∃ (kq : Nat) (x198_51 : Bool), v198 = .bool x198_51 ∧ Aside0 (foghornlaw20_MendNever.j4 kq a0 l2 x198_51 t303 t304 t307 = some r) ∧ Aside0 (kq ≤ kj39) ∧ Aside0 (Kd.R (Kd.int .i64) 3 wc w.heap.size (fun k_ => some k_ ≠ ((.slice Ao28 t307.length co28) : Value).ownBlock ∧ some k_ ≠ ((.slice Ao62 t321.length co62) : Value).ownBlock ∧ some k_ ≠ ((.slice Ao63 t324.length co63) : Value).ownBlock) (.slice Ao27 t304.length co27) t304) ∧ Aside0 (Kd.R (Kd.int .i64) 3 wc w.heap.size (fun k_ => some k_ ≠ ((.slice Ao27 t304.length co27) : Value).ownBlock ∧ some k_ ≠ ((.slice Ao62 t321.length co62) : Value).ownBlock ∧ some k_ ≠ ((.slice Ao63 t324.length co63) : Value).ownBlock) (.slice Ao28 t307.length co28) t307) ∧ Aside0 (Kd.R (Kd.int .i64) 3 wc w.heap.size (fun k_ => some k_ ≠ ((.slice Ao27 t304.length co27) : Value).ownBlock ∧ some k_ ≠ ((.slice Ao28 t307.length co28) : Value).ownBlock ∧ some k_ ≠ ((.slice Ao63 t324.length co63) : Value).ownBlock) (.slice Ao62 t321.length co62) t321) ∧ Aside0 (Kd.R (Kd.int .i64) 3 wc w.heap.size (fun k_ => some k_ ≠ ((.slice Ao27 t304.length co27) : Value).ownBlock ∧ some k_ ≠ ((.slice Ao28 t307.length co28) : Value).ownBlock ∧ some k_ ≠ ((.slice Ao62 t321.length co62) : Value).ownBlock) (.slice Ao63 t324.length co63) t324) ∧ Aside0 (wc.heap[gb311]? = some (.cells #[.string t303, (.slice Ao27 t304.length co27), (.slice Ao28 t307.length co28)] 31 (0, 0))) ∧ Aside0 (wc.heap[gb328]? = some (.cells #[.string t320, (.slice Ao62 t321.length co62), (.slice Ao63 t324.length co63)] 31 (0, 0))) ∧ Aside0 (Below w.heap.size w wc))
                      case first => as_aux_lemma =>
                        have H := HC52.out
                        clear HC52
                        by_cases c64 : t310 = 0
                        · rw [if_pos c64] at H
                          have c64b0 : (t310 == 0) = true := beq_iff_eq.mpr c64
                          have c64b1 : (t310 != 0) = false := bne_eq_false_iff_eq.mpr c64
                          clear c64
                          (first | rw [c64b0] | (simp only [i64_w, i32_w]; rw [c64b0]) | skip)
                          by_cases c65 : t317 = 0
                          · rw [if_pos c65] at H
                            have c65b0 : (t317 == 0) = true := beq_iff_eq.mpr c65
                            have c65b1 : (t317 != 0) = false := bne_eq_false_iff_eq.mpr c65
                            clear c65
                            by_cases c66 : t319 = 0
                            · rw [if_pos c66] at H
                              have c66b0 : (t319 == 0) = true := beq_iff_eq.mpr c66
                              have c66b1 : (t319 != 0) = false := bne_eq_false_iff_eq.mpr c66
                              clear c66
                              by_cases c67 : t327 = 0
                              · rw [if_pos c67] at H
                                have c67b0 : (t327 == 0) = true := beq_iff_eq.mpr c67
                                have c67b1 : (t327 != 0) = false := bne_eq_false_iff_eq.mpr c67
                                clear c67
                                by_cases c68 : t316 = true
                                · subst c68
                                  have H1 : (if t318 = true then (if t320.toList = t303.toList then (if (t321.length : Int) = 0 then (if (t307.length : Int) = (l2.length : Int) then (if (wrap64 ((wrap64 (2 * (t304.length : Int))) + (l2.length : Int))) > a1 then (foghornlaw20_MendNever.j4 kj39 a0 l2 true t303 t304 t307) else (if t314 = true then (foghornlaw20_MendNever.j4 kj39 a0 l2 (x11_29.toList != t303.toList) t303 t304 t307) else (foghornlaw20_MendNever.j4 kj39 a0 l2 false t303 t304 t307))) else (foghornlaw20_MendNever.j4 kj39 a0 l2 true t303 t304 t307)) else (foghornlaw20_MendNever.j4 kj39 a0 l2 true t303 t304 t307)) else (foghornlaw20_MendNever.j4 kj39 a0 l2 true t303 t304 t307)) else (foghornlaw20_MendNever.j4 kj39 a0 l2 true t303 t304 t307)) = some r := by rw [if_pos rfl] at H; exact H
                                  clear H
                                  have H := H1
                                  clear H1
                                  by_cases c69 : t318 = true
                                  · subst c69
                                    have H1 : (if t320.toList = t303.toList then (if (t321.length : Int) = 0 then (if (t307.length : Int) = (l2.length : Int) then (if (wrap64 ((wrap64 (2 * (t304.length : Int))) + (l2.length : Int))) > a1 then (foghornlaw20_MendNever.j4 kj39 a0 l2 true t303 t304 t307) else (if t314 = true then (foghornlaw20_MendNever.j4 kj39 a0 l2 (x11_29.toList != t303.toList) t303 t304 t307) else (foghornlaw20_MendNever.j4 kj39 a0 l2 false t303 t304 t307))) else (foghornlaw20_MendNever.j4 kj39 a0 l2 true t303 t304 t307)) else (foghornlaw20_MendNever.j4 kj39 a0 l2 true t303 t304 t307)) else (foghornlaw20_MendNever.j4 kj39 a0 l2 true t303 t304 t307)) = some r := by rw [if_pos rfl] at H; exact H
                                    clear H
                                    have H := H1
                                    clear H1
                                    by_cases c70 : t320.toList = t303.toList
                                    · rw [if_pos c70] at H
                                      have c70b0 : (t320.toList == t303.toList) = true := beq_iff_eq.mpr c70
                                      have c70b1 : (t320.toList != t303.toList) = false := bne_eq_false_iff_eq.mpr c70
                                      clear c70
                                      by_cases c71 : (t321.length : Int) = 0
                                      · rw [if_pos c71] at H
                                        have c71b0 : ((t321.length : Int) == 0) = true := beq_iff_eq.mpr c71
                                        have c71b1 : ((t321.length : Int) != 0) = false := bne_eq_false_iff_eq.mpr c71
                                        clear c71
                                        by_cases c72 : (t307.length : Int) = (l2.length : Int)
                                        · rw [if_pos c72] at H
                                          have c72b0 : ((t307.length : Int) == (l2.length : Int)) = true := beq_iff_eq.mpr c72
                                          have c72b1 : ((t307.length : Int) != (l2.length : Int)) = false := bne_eq_false_iff_eq.mpr c72
                                          have c72b2 : (t307.length == l2.length) = true := by first | simpa using c72 | (simp at c72 ⊢; omega)
                                          clear c72
                                          by_cases c73 : (wrap64 ((wrap64 (2 * (t304.length : Int))) + (l2.length : Int))) > a1
                                          · rw [if_pos c73] at H
                                            have c73b0 : decide (a1 < (wrap64 ((wrap64 (2 * (t304.length : Int))) + (l2.length : Int)))) = true := decide_eq_true c73
                                            clear c73
                                            have H' := Aside0.mk H
                                            clear H
                                            have hnb74 := NB328_311.out
                                            have hnc74 := NB311_328.out
                                            have hcz75_0 : w59.cell? ⟨gb328, 0, none⟩ = some (.string (⟨#[]⟩ : ByteArray)) := (blk_cell BK328.out 0).trans rfl
                                            have hcz75_1 : w59.cell? ⟨gb328, 1, none⟩ = some (.slice none 0 0) := (blk_cell BK328.out 1).trans rfl
                                            have hcz75_2 : w59.cell? ⟨gb328, 2, none⟩ = some (.slice none 0 0) := (blk_cell BK328.out 2).trans rfl
                                            have hfz75_0 := blk_frozen BK328.out 0
                                            have hfz75_1 := blk_frozen BK328.out 1
                                            have hfz75_2 := blk_frozen BK328.out 2
                                            have hcz76_0 : w59.cell? ⟨gb311, 0, none⟩ = some (.string t303) := (blk_cell BK311.out 0).trans rfl
                                            have hcz76_1 : w59.cell? ⟨gb311, 1, none⟩ = some (.slice Ao27 t304.length co27) := (blk_cell BK311.out 1).trans rfl
                                            have hcz76_2 : w59.cell? ⟨gb311, 2, none⟩ = some (.slice Ao28 t307.length co28) := (blk_cell BK311.out 2).trans rfl
                                            have hfz76_0 := blk_frozen BK311.out 0
                                            have hfz76_1 := blk_frozen BK311.out 1
                                            have hfz76_2 := blk_frozen BK311.out 2
                                            as_aux_lemma =>
                                              go_wp2
                                              repeat (go_quiet (fail); try go_wp2)
                                              go_meet
                                              case rel => exact ⟨_, (true), (by first | rfl | (simp; done) | (simp [*]; done)), H', ⟨by have := HJ21.out; have := HJ29.out; have := HJ39.out; first | omega | exact Nat.le_refl _⟩, ⟨by (with_reducible repeat (first | apply Kd.R_alloc | apply Kd.R_drewN | apply Kd.R_drew)); exact Kd.R_mono (Kd.R_far (p := ⟨gb328, 2, none⟩) (Kd.R_far (p := ⟨gb328, 1, none⟩) (Kd.R_far (p := ⟨gb328, 0, none⟩) (Kd.R_types HO_312001.out BK328.out (by decide)) (fun _ hk => hk.2) (.string t320)) (fun _ hk => hk.2) (.slice Ao62 t321.length co62)) (fun _ hk => hk.2) (.slice Ao63 t324.length co63)) (fun _ hk => ⟨hk.1.1.1, ⟨hk.1.1.2, hk.1.2⟩⟩)⟩, ⟨by (with_reducible repeat (first | apply Kd.R_alloc | apply Kd.R_drewN | apply Kd.R_drew)); exact Kd.R_mono (Kd.R_far (p := ⟨gb328, 2, none⟩) (Kd.R_far (p := ⟨gb328, 1, none⟩) (Kd.R_far (p := ⟨gb328, 0, none⟩) (Kd.R_types HO_312002.out BK328.out (by decide)) (fun _ hk => hk.2) (.string t320)) (fun _ hk => hk.2) (.slice Ao62 t321.length co62)) (fun _ hk => hk.2) (.slice Ao63 t324.length co63)) (fun _ hk => ⟨hk.1.1.1, ⟨hk.1.1.2, hk.1.2⟩⟩)⟩, ⟨by (with_reducible repeat (first | apply Kd.R_alloc | apply Kd.R_drewN | apply Kd.R_drew)); exact Kd.R_mono (Kd.R_far (p := ⟨gb328, 2, none⟩) (Kd.R_far (p := ⟨gb328, 1, none⟩) (Kd.R_far (p := ⟨gb328, 0, none⟩) (Kd.R_types HO323.out BK328.out (by decide)) (fun _ hk => hk.2) (.string t320)) (fun _ hk => hk.2) (.slice Ao62 t321.length co62)) (fun _ hk => hk.2) (.slice Ao63 t324.length co63)) (fun _ hk => ⟨hk.1.1.2, ⟨hk.1.2, hk.1.1.1⟩⟩)⟩, ⟨by (with_reducible repeat (first | apply Kd.R_alloc | apply Kd.R_drewN | apply Kd.R_drew)); exact Kd.R_mono (Kd.R_far (p := ⟨gb328, 2, none⟩) (Kd.R_far (p := ⟨gb328, 1, none⟩) (Kd.R_far (p := ⟨gb328, 0, none⟩) (Kd.R_types HO326.out BK328.out (by decide)) (fun _ hk => hk.2) (.string t320)) (fun _ hk => hk.2) (.slice Ao62 t321.length co62)) (fun _ hk => hk.2) (.slice Ao63 t324.length co63)) (fun _ hk => ⟨hk.1.1.2, ⟨hk.1.2, hk.1.1.1⟩⟩)⟩, ⟨by (with_reducible repeat (first | refine blk_drewN ?_ _ | refine blk_drew ?_ | refine blk_alloc ?_ _)); refine blk_far ?_ NB311_328.out _; (with_reducible repeat (first | refine blk_drewN ?_ _ | refine blk_drew ?_ | refine blk_alloc ?_ _)); refine blk_far ?_ NB311_328.out _; (with_reducible repeat (first | refine blk_drewN ?_ _ | refine blk_drew ?_ | refine blk_alloc ?_ _)); refine blk_far ?_ NB311_328.out _; (with_reducible repeat (first | refine blk_drewN ?_ _ | refine blk_drew ?_ | refine blk_alloc ?_ _)); exact BK311.out⟩, ⟨by (with_reducible repeat (first | refine blk_drewN ?_ _ | refine blk_drew ?_ | refine blk_alloc ?_ _)); refine blk_put (cs := #[.string t320, .slice Ao62 t321.length co62, .slice none 0 0]) ?_ 2 _ rfl; (with_reducible repeat (first | refine blk_drewN ?_ _ | refine blk_drew ?_ | refine blk_alloc ?_ _)); refine blk_put (cs := #[.string t320, .slice none 0 0, .slice none 0 0]) ?_ 1 _ rfl; (with_reducible repeat (first | refine blk_drewN ?_ _ | refine blk_drew ?_ | refine blk_alloc ?_ _)); refine blk_put (cs := #[.string (⟨#[]⟩ : ByteArray), .slice none 0 0, .slice none 0 0]) ?_ 0 _ rfl; (with_reducible repeat (first | refine blk_drewN ?_ _ | refine blk_drew ?_ | refine blk_alloc ?_ _)); exact BK328.out⟩, ⟨by repeat (first | (with_reducible first | exact HB.out | apply below_alloc | apply pw_below_drewN | apply below_drew1 | refine below_set ?_ GE311.out | refine below_set ?_ GE328.out) | exact HB.out)⟩⟩
                                          · rw [if_neg c73] at H
                                            have c73b0 : decide (a1 < (wrap64 ((wrap64 (2 * (t304.length : Int))) + (l2.length : Int)))) = false := decide_eq_false c73
                                            clear c73
                                            by_cases c77 : t314 = true
                                            · subst c77
                                              have H1 : (foghornlaw20_MendNever.j4 kj39 a0 l2 (x11_29.toList != t303.toList) t303 t304 t307) = some r := by rw [if_pos rfl] at H; exact H
                                              clear H
                                              have H := H1
                                              clear H1
                                              have H' := Aside0.mk H
                                              clear H
                                              have hnb78 := NB328_311.out
                                              have hnc78 := NB311_328.out
                                              have hcz79_0 : w59.cell? ⟨gb328, 0, none⟩ = some (.string (⟨#[]⟩ : ByteArray)) := (blk_cell BK328.out 0).trans rfl
                                              have hcz79_1 : w59.cell? ⟨gb328, 1, none⟩ = some (.slice none 0 0) := (blk_cell BK328.out 1).trans rfl
                                              have hcz79_2 : w59.cell? ⟨gb328, 2, none⟩ = some (.slice none 0 0) := (blk_cell BK328.out 2).trans rfl
                                              have hfz79_0 := blk_frozen BK328.out 0
                                              have hfz79_1 := blk_frozen BK328.out 1
                                              have hfz79_2 := blk_frozen BK328.out 2
                                              have hcz80_0 : w59.cell? ⟨gb311, 0, none⟩ = some (.string t303) := (blk_cell BK311.out 0).trans rfl
                                              have hcz80_1 : w59.cell? ⟨gb311, 1, none⟩ = some (.slice Ao27 t304.length co27) := (blk_cell BK311.out 1).trans rfl
                                              have hcz80_2 : w59.cell? ⟨gb311, 2, none⟩ = some (.slice Ao28 t307.length co28) := (blk_cell BK311.out 2).trans rfl
                                              have hfz80_0 := blk_frozen BK311.out 0
                                              have hfz80_1 := blk_frozen BK311.out 1
                                              have hfz80_2 := blk_frozen BK311.out 2
                                              as_aux_lemma =>
                                                go_wp2
                                                repeat (go_quiet (fail); try go_wp2)
                                                go_meet
                                                case rel => exact ⟨_, ((x11_29.toList != t303.toList)), (by first | rfl | (simp; done) | (simp [*]; done)), H', ⟨by have := HJ21.out; have := HJ29.out; have := HJ39.out; first | omega | exact Nat.le_refl _⟩, ⟨by (with_reducible repeat (first | apply Kd.R_alloc | apply Kd.R_drewN | apply Kd.R_drew)); exact Kd.R_mono (Kd.R_far (p := ⟨gb328, 2, none⟩) (Kd.R_far (p := ⟨gb328, 1, none⟩) (Kd.R_far (p := ⟨gb328, 0, none⟩) (Kd.R_types HO_312001.out BK328.out (by decide)) (fun _ hk => hk.2) (.string t320)) (fun _ hk => hk.2) (.slice Ao62 t321.length co62)) (fun _ hk => hk.2) (.slice Ao63 t324.length co63)) (fun _ hk => ⟨hk.1.1.1, ⟨hk.1.1.2, hk.1.2⟩⟩)⟩, ⟨by (with_reducible repeat (first | apply Kd.R_alloc | apply Kd.R_drewN | apply Kd.R_drew)); exact Kd.R_mono (Kd.R_far (p := ⟨gb328, 2, none⟩) (Kd.R_far (p := ⟨gb328, 1, none⟩) (Kd.R_far (p := ⟨gb328, 0, none⟩) (Kd.R_types HO_312002.out BK328.out (by decide)) (fun _ hk => hk.2) (.string t320)) (fun _ hk => hk.2) (.slice Ao62 t321.length co62)) (fun _ hk => hk.2) (.slice Ao63 t324.length co63)) (fun _ hk => ⟨hk.1.1.1, ⟨hk.1.1.2, hk.1.2⟩⟩)⟩, ⟨by (with_reducible repeat (first | apply Kd.R_alloc | apply Kd.R_drewN | apply Kd.R_drew)); exact Kd.R_mono (Kd.R_far (p := ⟨gb328, 2, none⟩) (Kd.R_far (p := ⟨gb328, 1, none⟩) (Kd.R_far (p := ⟨gb328, 0, none⟩) (Kd.R_types HO323.out BK328.out (by decide)) (fun _ hk => hk.2) (.string t320)) (fun _ hk => hk.2) (.slice Ao62 t321.length co62)) (fun _ hk => hk.2) (.slice Ao63 t324.length co63)) (fun _ hk => ⟨hk.1.1.2, ⟨hk.1.2, hk.1.1.1⟩⟩)⟩, ⟨by (with_reducible repeat (first | apply Kd.R_alloc | apply Kd.R_drewN | apply Kd.R_drew)); exact Kd.R_mono (Kd.R_far (p := ⟨gb328, 2, none⟩) (Kd.R_far (p := ⟨gb328, 1, none⟩) (Kd.R_far (p := ⟨gb328, 0, none⟩) (Kd.R_types HO326.out BK328.out (by decide)) (fun _ hk => hk.2) (.string t320)) (fun _ hk => hk.2) (.slice Ao62 t321.length co62)) (fun _ hk => hk.2) (.slice Ao63 t324.length co63)) (fun _ hk => ⟨hk.1.1.2, ⟨hk.1.2, hk.1.1.1⟩⟩)⟩, ⟨by (with_reducible repeat (first | refine blk_drewN ?_ _ | refine blk_drew ?_ | refine blk_alloc ?_ _)); refine blk_far ?_ NB311_328.out _; (with_reducible repeat (first | refine blk_drewN ?_ _ | refine blk_drew ?_ | refine blk_alloc ?_ _)); refine blk_far ?_ NB311_328.out _; (with_reducible repeat (first | refine blk_drewN ?_ _ | refine blk_drew ?_ | refine blk_alloc ?_ _)); refine blk_far ?_ NB311_328.out _; (with_reducible repeat (first | refine blk_drewN ?_ _ | refine blk_drew ?_ | refine blk_alloc ?_ _)); exact BK311.out⟩, ⟨by (with_reducible repeat (first | refine blk_drewN ?_ _ | refine blk_drew ?_ | refine blk_alloc ?_ _)); refine blk_put (cs := #[.string t320, .slice Ao62 t321.length co62, .slice none 0 0]) ?_ 2 _ rfl; (with_reducible repeat (first | refine blk_drewN ?_ _ | refine blk_drew ?_ | refine blk_alloc ?_ _)); refine blk_put (cs := #[.string t320, .slice none 0 0, .slice none 0 0]) ?_ 1 _ rfl; (with_reducible repeat (first | refine blk_drewN ?_ _ | refine blk_drew ?_ | refine blk_alloc ?_ _)); refine blk_put (cs := #[.string (⟨#[]⟩ : ByteArray), .slice none 0 0, .slice none 0 0]) ?_ 0 _ rfl; (with_reducible repeat (first | refine blk_drewN ?_ _ | refine blk_drew ?_ | refine blk_alloc ?_ _)); exact BK328.out⟩, ⟨by repeat (first | (with_reducible first | exact HB.out | apply below_alloc | apply pw_below_drewN | apply below_drew1 | refine below_set ?_ GE311.out | refine below_set ?_ GE328.out) | exact HB.out)⟩⟩
                                            · replace c77 := Bool.eq_false_iff.mpr c77
                                              subst c77
                                              have H1 : (foghornlaw20_MendNever.j4 kj39 a0 l2 false t303 t304 t307) = some r := by rw [if_neg (show ¬ (false = true) by decide)] at H; exact H
                                              clear H
                                              have H := H1
                                              clear H1
                                              have H' := Aside0.mk H
                                              clear H
                                              have hnb81 := NB328_311.out
                                              have hnc81 := NB311_328.out
                                              have hcz82_0 : w59.cell? ⟨gb328, 0, none⟩ = some (.string (⟨#[]⟩ : ByteArray)) := (blk_cell BK328.out 0).trans rfl
                                              have hcz82_1 : w59.cell? ⟨gb328, 1, none⟩ = some (.slice none 0 0) := (blk_cell BK328.out 1).trans rfl
                                              have hcz82_2 : w59.cell? ⟨gb328, 2, none⟩ = some (.slice none 0 0) := (blk_cell BK328.out 2).trans rfl
                                              have hfz82_0 := blk_frozen BK328.out 0
                                              have hfz82_1 := blk_frozen BK328.out 1
                                              have hfz82_2 := blk_frozen BK328.out 2
                                              have hcz83_0 : w59.cell? ⟨gb311, 0, none⟩ = some (.string t303) := (blk_cell BK311.out 0).trans rfl
                                              have hcz83_1 : w59.cell? ⟨gb311, 1, none⟩ = some (.slice Ao27 t304.length co27) := (blk_cell BK311.out 1).trans rfl
                                              have hcz83_2 : w59.cell? ⟨gb311, 2, none⟩ = some (.slice Ao28 t307.length co28) := (blk_cell BK311.out 2).trans rfl
                                              have hfz83_0 := blk_frozen BK311.out 0
                                              have hfz83_1 := blk_frozen BK311.out 1
                                              have hfz83_2 := blk_frozen BK311.out 2
                                              as_aux_lemma =>
                                                go_wp2
                                                repeat (go_quiet (fail); try go_wp2)
                                                go_meet
                                                case rel => exact ⟨_, (false), (by first | rfl | (simp; done) | (simp [*]; done)), H', ⟨by have := HJ21.out; have := HJ29.out; have := HJ39.out; first | omega | exact Nat.le_refl _⟩, ⟨by (with_reducible repeat (first | apply Kd.R_alloc | apply Kd.R_drewN | apply Kd.R_drew)); exact Kd.R_mono (Kd.R_far (p := ⟨gb328, 2, none⟩) (Kd.R_far (p := ⟨gb328, 1, none⟩) (Kd.R_far (p := ⟨gb328, 0, none⟩) (Kd.R_types HO_312001.out BK328.out (by decide)) (fun _ hk => hk.2) (.string t320)) (fun _ hk => hk.2) (.slice Ao62 t321.length co62)) (fun _ hk => hk.2) (.slice Ao63 t324.length co63)) (fun _ hk => ⟨hk.1.1.1, ⟨hk.1.1.2, hk.1.2⟩⟩)⟩, ⟨by (with_reducible repeat (first | apply Kd.R_alloc | apply Kd.R_drewN | apply Kd.R_drew)); exact Kd.R_mono (Kd.R_far (p := ⟨gb328, 2, none⟩) (Kd.R_far (p := ⟨gb328, 1, none⟩) (Kd.R_far (p := ⟨gb328, 0, none⟩) (Kd.R_types HO_312002.out BK328.out (by decide)) (fun _ hk => hk.2) (.string t320)) (fun _ hk => hk.2) (.slice Ao62 t321.length co62)) (fun _ hk => hk.2) (.slice Ao63 t324.length co63)) (fun _ hk => ⟨hk.1.1.1, ⟨hk.1.1.2, hk.1.2⟩⟩)⟩, ⟨by (with_reducible repeat (first | apply Kd.R_alloc | apply Kd.R_drewN | apply Kd.R_drew)); exact Kd.R_mono (Kd.R_far (p := ⟨gb328, 2, none⟩) (Kd.R_far (p := ⟨gb328, 1, none⟩) (Kd.R_far (p := ⟨gb328, 0, none⟩) (Kd.R_types HO323.out BK328.out (by decide)) (fun _ hk => hk.2) (.string t320)) (fun _ hk => hk.2) (.slice Ao62 t321.length co62)) (fun _ hk => hk.2) (.slice Ao63 t324.length co63)) (fun _ hk => ⟨hk.1.1.2, ⟨hk.1.2, hk.1.1.1⟩⟩)⟩, ⟨by (with_reducible repeat (first | apply Kd.R_alloc | apply Kd.R_drewN | apply Kd.R_drew)); exact Kd.R_mono (Kd.R_far (p := ⟨gb328, 2, none⟩) (Kd.R_far (p := ⟨gb328, 1, none⟩) (Kd.R_far (p := ⟨gb328, 0, none⟩) (Kd.R_types HO326.out BK328.out (by decide)) (fun _ hk => hk.2) (.string t320)) (fun _ hk => hk.2) (.slice Ao62 t321.length co62)) (fun _ hk => hk.2) (.slice Ao63 t324.length co63)) (fun _ hk => ⟨hk.1.1.2, ⟨hk.1.2, hk.1.1.1⟩⟩)⟩, ⟨by (with_reducible repeat (first | refine blk_drewN ?_ _ | refine blk_drew ?_ | refine blk_alloc ?_ _)); refine blk_far ?_ NB311_328.out _; (with_reducible repeat (first | refine blk_drewN ?_ _ | refine blk_drew ?_ | refine blk_alloc ?_ _)); refine blk_far ?_ NB311_328.out _; (with_reducible repeat (first | refine blk_drewN ?_ _ | refine blk_drew ?_ | refine blk_alloc ?_ _)); refine blk_far ?_ NB311_328.out _; (with_reducible repeat (first | refine blk_drewN ?_ _ | refine blk_drew ?_ | refine blk_alloc ?_ _)); exact BK311.out⟩, ⟨by (with_reducible repeat (first | refine blk_drewN ?_ _ | refine blk_drew ?_ | refine blk_alloc ?_ _)); refine blk_put (cs := #[.string t320, .slice Ao62 t321.length co62, .slice none 0 0]) ?_ 2 _ rfl; (with_reducible repeat (first | refine blk_drewN ?_ _ | refine blk_drew ?_ | refine blk_alloc ?_ _)); refine blk_put (cs := #[.string t320, .slice none 0 0, .slice none 0 0]) ?_ 1 _ rfl; (with_reducible repeat (first | refine blk_drewN ?_ _ | refine blk_drew ?_ | refine blk_alloc ?_ _)); refine blk_put (cs := #[.string (⟨#[]⟩ : ByteArray), .slice none 0 0, .slice none 0 0]) ?_ 0 _ rfl; (with_reducible repeat (first | refine blk_drewN ?_ _ | refine blk_drew ?_ | refine blk_alloc ?_ _)); exact BK328.out⟩, ⟨by repeat (first | (with_reducible first | exact HB.out | apply below_alloc | apply pw_below_drewN | apply below_drew1 | refine below_set ?_ GE311.out | refine below_set ?_ GE328.out) | exact HB.out)⟩⟩
                                        · rw [if_neg c72] at H
                                          have c72b0 : ((t307.length : Int) == (l2.length : Int)) = false := beq_eq_false_iff_ne.mpr c72
                                          have c72b1 : ((t307.length : Int) != (l2.length : Int)) = true := bne_iff_ne.mpr c72
                                          have c72b2 : (t307.length == l2.length) = false := by first | simpa using c72 | (simp at c72 ⊢; omega)
                                          have H' := Aside0.mk H
                                          clear H
                                          have hnb84 := NB328_311.out
                                          have hnc84 := NB311_328.out
                                          have hcz85_0 : w59.cell? ⟨gb328, 0, none⟩ = some (.string (⟨#[]⟩ : ByteArray)) := (blk_cell BK328.out 0).trans rfl
                                          have hcz85_1 : w59.cell? ⟨gb328, 1, none⟩ = some (.slice none 0 0) := (blk_cell BK328.out 1).trans rfl
                                          have hcz85_2 : w59.cell? ⟨gb328, 2, none⟩ = some (.slice none 0 0) := (blk_cell BK328.out 2).trans rfl
                                          have hfz85_0 := blk_frozen BK328.out 0
                                          have hfz85_1 := blk_frozen BK328.out 1
                                          have hfz85_2 := blk_frozen BK328.out 2
                                          have hcz86_0 : w59.cell? ⟨gb311, 0, none⟩ = some (.string t303) := (blk_cell BK311.out 0).trans rfl
                                          have hcz86_1 : w59.cell? ⟨gb311, 1, none⟩ = some (.slice Ao27 t304.length co27) := (blk_cell BK311.out 1).trans rfl
                                          have hcz86_2 : w59.cell? ⟨gb311, 2, none⟩ = some (.slice Ao28 t307.length co28) := (blk_cell BK311.out 2).trans rfl
                                          have hfz86_0 := blk_frozen BK311.out 0
                                          have hfz86_1 := blk_frozen BK311.out 1
                                          have hfz86_2 := blk_frozen BK311.out 2
                                          as_aux_lemma =>
                                            go_wp2
                                            repeat (go_quiet (fail); try go_wp2)
                                            go_meet
                                            case rel => exact ⟨_, (true), (by first | rfl | (simp; done) | (simp [*]; done)), H', ⟨by have := HJ21.out; have := HJ29.out; have := HJ39.out; first | omega | exact Nat.le_refl _⟩, ⟨by (with_reducible repeat (first | apply Kd.R_alloc | apply Kd.R_drewN | apply Kd.R_drew)); exact Kd.R_mono (Kd.R_far (p := ⟨gb328, 2, none⟩) (Kd.R_far (p := ⟨gb328, 1, none⟩) (Kd.R_far (p := ⟨gb328, 0, none⟩) (Kd.R_types HO_312001.out BK328.out (by decide)) (fun _ hk => hk.2) (.string t320)) (fun _ hk => hk.2) (.slice Ao62 t321.length co62)) (fun _ hk => hk.2) (.slice Ao63 t324.length co63)) (fun _ hk => ⟨hk.1.1.1, ⟨hk.1.1.2, hk.1.2⟩⟩)⟩, ⟨by (with_reducible repeat (first | apply Kd.R_alloc | apply Kd.R_drewN | apply Kd.R_drew)); exact Kd.R_mono (Kd.R_far (p := ⟨gb328, 2, none⟩) (Kd.R_far (p := ⟨gb328, 1, none⟩) (Kd.R_far (p := ⟨gb328, 0, none⟩) (Kd.R_types HO_312002.out BK328.out (by decide)) (fun _ hk => hk.2) (.string t320)) (fun _ hk => hk.2) (.slice Ao62 t321.length co62)) (fun _ hk => hk.2) (.slice Ao63 t324.length co63)) (fun _ hk => ⟨hk.1.1.1, ⟨hk.1.1.2, hk.1.2⟩⟩)⟩, ⟨by (with_reducible repeat (first | apply Kd.R_alloc | apply Kd.R_drewN | apply Kd.R_drew)); exact Kd.R_mono (Kd.R_far (p := ⟨gb328, 2, none⟩) (Kd.R_far (p := ⟨gb328, 1, none⟩) (Kd.R_far (p := ⟨gb328, 0, none⟩) (Kd.R_types HO323.out BK328.out (by decide)) (fun _ hk => hk.2) (.string t320)) (fun _ hk => hk.2) (.slice Ao62 t321.length co62)) (fun _ hk => hk.2) (.slice Ao63 t324.length co63)) (fun _ hk => ⟨hk.1.1.2, ⟨hk.1.2, hk.1.1.1⟩⟩)⟩, ⟨by (with_reducible repeat (first | apply Kd.R_alloc | apply Kd.R_drewN | apply Kd.R_drew)); exact Kd.R_mono (Kd.R_far (p := ⟨gb328, 2, none⟩) (Kd.R_far (p := ⟨gb328, 1, none⟩) (Kd.R_far (p := ⟨gb328, 0, none⟩) (Kd.R_types HO326.out BK328.out (by decide)) (fun _ hk => hk.2) (.string t320)) (fun _ hk => hk.2) (.slice Ao62 t321.length co62)) (fun _ hk => hk.2) (.slice Ao63 t324.length co63)) (fun _ hk => ⟨hk.1.1.2, ⟨hk.1.2, hk.1.1.1⟩⟩)⟩, ⟨by (with_reducible repeat (first | refine blk_drewN ?_ _ | refine blk_drew ?_ | refine blk_alloc ?_ _)); refine blk_far ?_ NB311_328.out _; (with_reducible repeat (first | refine blk_drewN ?_ _ | refine blk_drew ?_ | refine blk_alloc ?_ _)); refine blk_far ?_ NB311_328.out _; (with_reducible repeat (first | refine blk_drewN ?_ _ | refine blk_drew ?_ | refine blk_alloc ?_ _)); refine blk_far ?_ NB311_328.out _; (with_reducible repeat (first | refine blk_drewN ?_ _ | refine blk_drew ?_ | refine blk_alloc ?_ _)); exact BK311.out⟩, ⟨by (with_reducible repeat (first | refine blk_drewN ?_ _ | refine blk_drew ?_ | refine blk_alloc ?_ _)); refine blk_put (cs := #[.string t320, .slice Ao62 t321.length co62, .slice none 0 0]) ?_ 2 _ rfl; (with_reducible repeat (first | refine blk_drewN ?_ _ | refine blk_drew ?_ | refine blk_alloc ?_ _)); refine blk_put (cs := #[.string t320, .slice none 0 0, .slice none 0 0]) ?_ 1 _ rfl; (with_reducible repeat (first | refine blk_drewN ?_ _ | refine blk_drew ?_ | refine blk_alloc ?_ _)); refine blk_put (cs := #[.string (⟨#[]⟩ : ByteArray), .slice none 0 0, .slice none 0 0]) ?_ 0 _ rfl; (with_reducible repeat (first | refine blk_drewN ?_ _ | refine blk_drew ?_ | refine blk_alloc ?_ _)); exact BK328.out⟩, ⟨by repeat (first | (with_reducible first | exact HB.out | apply below_alloc | apply pw_below_drewN | apply below_drew1 | refine below_set ?_ GE311.out | refine below_set ?_ GE328.out) | exact HB.out)⟩⟩
                                      · rw [if_neg c71] at H
                                        have c71b0 : ((t321.length : Int) == 0) = false := beq_eq_false_iff_ne.mpr c71
                                        have c71b1 : ((t321.length : Int) != 0) = true := bne_iff_ne.mpr c71
                                        have c71b2 : ¬ (t321 = []) := fun h_ => c71 (by rw [h_]; rfl)
                                        have H' := Aside0.mk H
                                        clear H
                                        have hnb87 := NB328_311.out
                                        have hnc87 := NB311_328.out
                                        have hcz88_0 : w59.cell? ⟨gb328, 0, none⟩ = some (.string (⟨#[]⟩ : ByteArray)) := (blk_cell BK328.out 0).trans rfl
                                        have hcz88_1 : w59.cell? ⟨gb328, 1, none⟩ = some (.slice none 0 0) := (blk_cell BK328.out 1).trans rfl
                                        have hcz88_2 : w59.cell? ⟨gb328, 2, none⟩ = some (.slice none 0 0) := (blk_cell BK328.out 2).trans rfl
                                        have hfz88_0 := blk_frozen BK328.out 0
                                        have hfz88_1 := blk_frozen BK328.out 1
                                        have hfz88_2 := blk_frozen BK328.out 2
                                        have hcz89_0 : w59.cell? ⟨gb311, 0, none⟩ = some (.string t303) := (blk_cell BK311.out 0).trans rfl
                                        have hcz89_1 : w59.cell? ⟨gb311, 1, none⟩ = some (.slice Ao27 t304.length co27) := (blk_cell BK311.out 1).trans rfl
                                        have hcz89_2 : w59.cell? ⟨gb311, 2, none⟩ = some (.slice Ao28 t307.length co28) := (blk_cell BK311.out 2).trans rfl
                                        have hfz89_0 := blk_frozen BK311.out 0
                                        have hfz89_1 := blk_frozen BK311.out 1
                                        have hfz89_2 := blk_frozen BK311.out 2
                                        as_aux_lemma =>
                                          go_wp2
                                          repeat (go_quiet (fail); try go_wp2)
                                          go_meet
                                          case rel => exact ⟨_, (true), (by first | rfl | (simp; done) | (simp [*]; done)), H', ⟨by have := HJ21.out; have := HJ29.out; have := HJ39.out; first | omega | exact Nat.le_refl _⟩, ⟨by (with_reducible repeat (first | apply Kd.R_alloc | apply Kd.R_drewN | apply Kd.R_drew)); exact Kd.R_mono (Kd.R_far (p := ⟨gb328, 2, none⟩) (Kd.R_far (p := ⟨gb328, 1, none⟩) (Kd.R_far (p := ⟨gb328, 0, none⟩) (Kd.R_types HO_312001.out BK328.out (by decide)) (fun _ hk => hk.2) (.string t320)) (fun _ hk => hk.2) (.slice Ao62 t321.length co62)) (fun _ hk => hk.2) (.slice Ao63 t324.length co63)) (fun _ hk => ⟨hk.1.1.1, ⟨hk.1.1.2, hk.1.2⟩⟩)⟩, ⟨by (with_reducible repeat (first | apply Kd.R_alloc | apply Kd.R_drewN | apply Kd.R_drew)); exact Kd.R_mono (Kd.R_far (p := ⟨gb328, 2, none⟩) (Kd.R_far (p := ⟨gb328, 1, none⟩) (Kd.R_far (p := ⟨gb328, 0, none⟩) (Kd.R_types HO_312002.out BK328.out (by decide)) (fun _ hk => hk.2) (.string t320)) (fun _ hk => hk.2) (.slice Ao62 t321.length co62)) (fun _ hk => hk.2) (.slice Ao63 t324.length co63)) (fun _ hk => ⟨hk.1.1.1, ⟨hk.1.1.2, hk.1.2⟩⟩)⟩, ⟨by (with_reducible repeat (first | apply Kd.R_alloc | apply Kd.R_drewN | apply Kd.R_drew)); exact Kd.R_mono (Kd.R_far (p := ⟨gb328, 2, none⟩) (Kd.R_far (p := ⟨gb328, 1, none⟩) (Kd.R_far (p := ⟨gb328, 0, none⟩) (Kd.R_types HO323.out BK328.out (by decide)) (fun _ hk => hk.2) (.string t320)) (fun _ hk => hk.2) (.slice Ao62 t321.length co62)) (fun _ hk => hk.2) (.slice Ao63 t324.length co63)) (fun _ hk => ⟨hk.1.1.2, ⟨hk.1.2, hk.1.1.1⟩⟩)⟩, ⟨by (with_reducible repeat (first | apply Kd.R_alloc | apply Kd.R_drewN | apply Kd.R_drew)); exact Kd.R_mono (Kd.R_far (p := ⟨gb328, 2, none⟩) (Kd.R_far (p := ⟨gb328, 1, none⟩) (Kd.R_far (p := ⟨gb328, 0, none⟩) (Kd.R_types HO326.out BK328.out (by decide)) (fun _ hk => hk.2) (.string t320)) (fun _ hk => hk.2) (.slice Ao62 t321.length co62)) (fun _ hk => hk.2) (.slice Ao63 t324.length co63)) (fun _ hk => ⟨hk.1.1.2, ⟨hk.1.2, hk.1.1.1⟩⟩)⟩, ⟨by (with_reducible repeat (first | refine blk_drewN ?_ _ | refine blk_drew ?_ | refine blk_alloc ?_ _)); refine blk_far ?_ NB311_328.out _; (with_reducible repeat (first | refine blk_drewN ?_ _ | refine blk_drew ?_ | refine blk_alloc ?_ _)); refine blk_far ?_ NB311_328.out _; (with_reducible repeat (first | refine blk_drewN ?_ _ | refine blk_drew ?_ | refine blk_alloc ?_ _)); refine blk_far ?_ NB311_328.out _; (with_reducible repeat (first | refine blk_drewN ?_ _ | refine blk_drew ?_ | refine blk_alloc ?_ _)); exact BK311.out⟩, ⟨by (with_reducible repeat (first | refine blk_drewN ?_ _ | refine blk_drew ?_ | refine blk_alloc ?_ _)); refine blk_put (cs := #[.string t320, .slice Ao62 t321.length co62, .slice none 0 0]) ?_ 2 _ rfl; (with_reducible repeat (first | refine blk_drewN ?_ _ | refine blk_drew ?_ | refine blk_alloc ?_ _)); refine blk_put (cs := #[.string t320, .slice none 0 0, .slice none 0 0]) ?_ 1 _ rfl; (with_reducible repeat (first | refine blk_drewN ?_ _ | refine blk_drew ?_ | refine blk_alloc ?_ _)); refine blk_put (cs := #[.string (⟨#[]⟩ : ByteArray), .slice none 0 0, .slice none 0 0]) ?_ 0 _ rfl; (with_reducible repeat (first | refine blk_drewN ?_ _ | refine blk_drew ?_ | refine blk_alloc ?_ _)); exact BK328.out⟩, ⟨by repeat (first | (with_reducible first | exact HB.out | apply below_alloc | apply pw_below_drewN | apply below_drew1 | refine below_set ?_ GE311.out | refine below_set ?_ GE328.out) | exact HB.out)⟩⟩
                                    · rw [if_neg c70] at H
                                      have c70b0 : (t320.toList == t303.toList) = false := beq_eq_false_iff_ne.mpr c70
                                      have c70b1 : (t320.toList != t303.toList) = true := bne_iff_ne.mpr c70
                                      have H' := Aside0.mk H
                                      clear H
                                      have hnb90 := NB328_311.out
                                      have hnc90 := NB311_328.out
                                      have hcz91_0 : w59.cell? ⟨gb328, 0, none⟩ = some (.string (⟨#[]⟩ : ByteArray)) := (blk_cell BK328.out 0).trans rfl
                                      have hcz91_1 : w59.cell? ⟨gb328, 1, none⟩ = some (.slice none 0 0) := (blk_cell BK328.out 1).trans rfl
                                      have hcz91_2 : w59.cell? ⟨gb328, 2, none⟩ = some (.slice none 0 0) := (blk_cell BK328.out 2).trans rfl
                                      have hfz91_0 := blk_frozen BK328.out 0
                                      have hfz91_1 := blk_frozen BK328.out 1
                                      have hfz91_2 := blk_frozen BK328.out 2
                                      have hcz92_0 : w59.cell? ⟨gb311, 0, none⟩ = some (.string t303) := (blk_cell BK311.out 0).trans rfl
                                      have hcz92_1 : w59.cell? ⟨gb311, 1, none⟩ = some (.slice Ao27 t304.length co27) := (blk_cell BK311.out 1).trans rfl
                                      have hcz92_2 : w59.cell? ⟨gb311, 2, none⟩ = some (.slice Ao28 t307.length co28) := (blk_cell BK311.out 2).trans rfl
                                      have hfz92_0 := blk_frozen BK311.out 0
                                      have hfz92_1 := blk_frozen BK311.out 1
                                      have hfz92_2 := blk_frozen BK311.out 2
                                      as_aux_lemma =>
                                        go_wp2
                                        repeat (go_quiet (fail); try go_wp2)
                                        go_meet
                                        case rel => exact ⟨_, (true), (by first | rfl | (simp; done) | (simp [*]; done)), H', ⟨by have := HJ21.out; have := HJ29.out; have := HJ39.out; first | omega | exact Nat.le_refl _⟩, ⟨by (with_reducible repeat (first | apply Kd.R_alloc | apply Kd.R_drewN | apply Kd.R_drew)); exact Kd.R_mono (Kd.R_far (p := ⟨gb328, 2, none⟩) (Kd.R_far (p := ⟨gb328, 1, none⟩) (Kd.R_far (p := ⟨gb328, 0, none⟩) (Kd.R_types HO_312001.out BK328.out (by decide)) (fun _ hk => hk.2) (.string t320)) (fun _ hk => hk.2) (.slice Ao62 t321.length co62)) (fun _ hk => hk.2) (.slice Ao63 t324.length co63)) (fun _ hk => ⟨hk.1.1.1, ⟨hk.1.1.2, hk.1.2⟩⟩)⟩, ⟨by (with_reducible repeat (first | apply Kd.R_alloc | apply Kd.R_drewN | apply Kd.R_drew)); exact Kd.R_mono (Kd.R_far (p := ⟨gb328, 2, none⟩) (Kd.R_far (p := ⟨gb328, 1, none⟩) (Kd.R_far (p := ⟨gb328, 0, none⟩) (Kd.R_types HO_312002.out BK328.out (by decide)) (fun _ hk => hk.2) (.string t320)) (fun _ hk => hk.2) (.slice Ao62 t321.length co62)) (fun _ hk => hk.2) (.slice Ao63 t324.length co63)) (fun _ hk => ⟨hk.1.1.1, ⟨hk.1.1.2, hk.1.2⟩⟩)⟩, ⟨by (with_reducible repeat (first | apply Kd.R_alloc | apply Kd.R_drewN | apply Kd.R_drew)); exact Kd.R_mono (Kd.R_far (p := ⟨gb328, 2, none⟩) (Kd.R_far (p := ⟨gb328, 1, none⟩) (Kd.R_far (p := ⟨gb328, 0, none⟩) (Kd.R_types HO323.out BK328.out (by decide)) (fun _ hk => hk.2) (.string t320)) (fun _ hk => hk.2) (.slice Ao62 t321.length co62)) (fun _ hk => hk.2) (.slice Ao63 t324.length co63)) (fun _ hk => ⟨hk.1.1.2, ⟨hk.1.2, hk.1.1.1⟩⟩)⟩, ⟨by (with_reducible repeat (first | apply Kd.R_alloc | apply Kd.R_drewN | apply Kd.R_drew)); exact Kd.R_mono (Kd.R_far (p := ⟨gb328, 2, none⟩) (Kd.R_far (p := ⟨gb328, 1, none⟩) (Kd.R_far (p := ⟨gb328, 0, none⟩) (Kd.R_types HO326.out BK328.out (by decide)) (fun _ hk => hk.2) (.string t320)) (fun _ hk => hk.2) (.slice Ao62 t321.length co62)) (fun _ hk => hk.2) (.slice Ao63 t324.length co63)) (fun _ hk => ⟨hk.1.1.2, ⟨hk.1.2, hk.1.1.1⟩⟩)⟩, ⟨by (with_reducible repeat (first | refine blk_drewN ?_ _ | refine blk_drew ?_ | refine blk_alloc ?_ _)); refine blk_far ?_ NB311_328.out _; (with_reducible repeat (first | refine blk_drewN ?_ _ | refine blk_drew ?_ | refine blk_alloc ?_ _)); refine blk_far ?_ NB311_328.out _; (with_reducible repeat (first | refine blk_drewN ?_ _ | refine blk_drew ?_ | refine blk_alloc ?_ _)); refine blk_far ?_ NB311_328.out _; (with_reducible repeat (first | refine blk_drewN ?_ _ | refine blk_drew ?_ | refine blk_alloc ?_ _)); exact BK311.out⟩, ⟨by (with_reducible repeat (first | refine blk_drewN ?_ _ | refine blk_drew ?_ | refine blk_alloc ?_ _)); refine blk_put (cs := #[.string t320, .slice Ao62 t321.length co62, .slice none 0 0]) ?_ 2 _ rfl; (with_reducible repeat (first | refine blk_drewN ?_ _ | refine blk_drew ?_ | refine blk_alloc ?_ _)); refine blk_put (cs := #[.string t320, .slice none 0 0, .slice none 0 0]) ?_ 1 _ rfl; (with_reducible repeat (first | refine blk_drewN ?_ _ | refine blk_drew ?_ | refine blk_alloc ?_ _)); refine blk_put (cs := #[.string (⟨#[]⟩ : ByteArray), .slice none 0 0, .slice none 0 0]) ?_ 0 _ rfl; (with_reducible repeat (first | refine blk_drewN ?_ _ | refine blk_drew ?_ | refine blk_alloc ?_ _)); exact BK328.out⟩, ⟨by repeat (first | (with_reducible first | exact HB.out | apply below_alloc | apply pw_below_drewN | apply below_drew1 | refine below_set ?_ GE311.out | refine below_set ?_ GE328.out) | exact HB.out)⟩⟩
                                  · replace c69 := Bool.eq_false_iff.mpr c69
                                    subst c69
                                    have H1 : (foghornlaw20_MendNever.j4 kj39 a0 l2 true t303 t304 t307) = some r := by rw [if_neg (show ¬ (false = true) by decide)] at H; exact H
                                    clear H
                                    have H := H1
                                    clear H1
                                    have H' := Aside0.mk H
                                    clear H
                                    as_aux_lemma =>
                                      go_wp2
                                      repeat (go_quiet (fail); try go_wp2)
                                      go_meet
                                      case rel => exact ⟨_, (true), (by first | rfl | (simp; done) | (simp [*]; done)), H', ⟨by have := HJ21.out; have := HJ29.out; have := HJ39.out; first | omega | exact Nat.le_refl _⟩, ⟨by (with_reducible repeat (first | apply Kd.R_alloc | apply Kd.R_drewN | apply Kd.R_drew)); exact Kd.R_mono (Kd.R_far (p := ⟨gb328, 2, none⟩) (Kd.R_far (p := ⟨gb328, 1, none⟩) (Kd.R_far (p := ⟨gb328, 0, none⟩) (Kd.R_types HO_312001.out BK328.out (by decide)) (fun _ hk => hk.2) (.string t320)) (fun _ hk => hk.2) (.slice Ao62 t321.length co62)) (fun _ hk => hk.2) (.slice Ao63 t324.length co63)) (fun _ hk => ⟨hk.1.1.1, ⟨hk.1.1.2, hk.1.2⟩⟩)⟩, ⟨by (with_reducible repeat (first | apply Kd.R_alloc | apply Kd.R_drewN | apply Kd.R_drew)); exact Kd.R_mono (Kd.R_far (p := ⟨gb328, 2, none⟩) (Kd.R_far (p := ⟨gb328, 1, none⟩) (Kd.R_far (p := ⟨gb328, 0, none⟩) (Kd.R_types HO_312002.out BK328.out (by decide)) (fun _ hk => hk.2) (.string t320)) (fun _ hk => hk.2) (.slice Ao62 t321.length co62)) (fun _ hk => hk.2) (.slice Ao63 t324.length co63)) (fun _ hk => ⟨hk.1.1.1, ⟨hk.1.1.2, hk.1.2⟩⟩)⟩, ⟨by (with_reducible repeat (first | apply Kd.R_alloc | apply Kd.R_drewN | apply Kd.R_drew)); exact Kd.R_mono (Kd.R_far (p := ⟨gb328, 2, none⟩) (Kd.R_far (p := ⟨gb328, 1, none⟩) (Kd.R_far (p := ⟨gb328, 0, none⟩) (Kd.R_types HO323.out BK328.out (by decide)) (fun _ hk => hk.2) (.string t320)) (fun _ hk => hk.2) (.slice Ao62 t321.length co62)) (fun _ hk => hk.2) (.slice Ao63 t324.length co63)) (fun _ hk => ⟨hk.1.1.2, ⟨hk.1.2, hk.1.1.1⟩⟩)⟩, ⟨by (with_reducible repeat (first | apply Kd.R_alloc | apply Kd.R_drewN | apply Kd.R_drew)); exact Kd.R_mono (Kd.R_far (p := ⟨gb328, 2, none⟩) (Kd.R_far (p := ⟨gb328, 1, none⟩) (Kd.R_far (p := ⟨gb328, 0, none⟩) (Kd.R_types HO326.out BK328.out (by decide)) (fun _ hk => hk.2) (.string t320)) (fun _ hk => hk.2) (.slice Ao62 t321.length co62)) (fun _ hk => hk.2) (.slice Ao63 t324.length co63)) (fun _ hk => ⟨hk.1.1.2, ⟨hk.1.2, hk.1.1.1⟩⟩)⟩, ⟨by (with_reducible repeat (first | refine blk_drewN ?_ _ | refine blk_drew ?_ | refine blk_alloc ?_ _)); refine blk_far ?_ NB311_328.out _; (with_reducible repeat (first | refine blk_drewN ?_ _ | refine blk_drew ?_ | refine blk_alloc ?_ _)); refine blk_far ?_ NB311_328.out _; (with_reducible repeat (first | refine blk_drewN ?_ _ | refine blk_drew ?_ | refine blk_alloc ?_ _)); refine blk_far ?_ NB311_328.out _; (with_reducible repeat (first | refine blk_drewN ?_ _ | refine blk_drew ?_ | refine blk_alloc ?_ _)); exact BK311.out⟩, ⟨by (with_reducible repeat (first | refine blk_drewN ?_ _ | refine blk_drew ?_ | refine blk_alloc ?_ _)); refine blk_put (cs := #[.string t320, .slice Ao62 t321.length co62, .slice none 0 0]) ?_ 2 _ rfl; (with_reducible repeat (first | refine blk_drewN ?_ _ | refine blk_drew ?_ | refine blk_alloc ?_ _)); refine blk_put (cs := #[.string t320, .slice none 0 0, .slice none 0 0]) ?_ 1 _ rfl; (with_reducible repeat (first | refine blk_drewN ?_ _ | refine blk_drew ?_ | refine blk_alloc ?_ _)); refine blk_put (cs := #[.string (⟨#[]⟩ : ByteArray), .slice none 0 0, .slice none 0 0]) ?_ 0 _ rfl; (with_reducible repeat (first | refine blk_drewN ?_ _ | refine blk_drew ?_ | refine blk_alloc ?_ _)); exact BK328.out⟩, ⟨by repeat (first | (with_reducible first | exact HB.out | apply below_alloc | apply pw_below_drewN | apply below_drew1 | refine below_set ?_ GE311.out | refine below_set ?_ GE328.out) | exact HB.out)⟩⟩
                                · replace c68 := Bool.eq_false_iff.mpr c68
                                  subst c68
                                  have H1 : (foghornlaw20_MendNever.j4 kj39 a0 l2 true t303 t304 t307) = some r := by rw [if_neg (show ¬ (false = true) by decide)] at H; exact H
                                  clear H
                                  have H := H1
                                  clear H1
                                  have H' := Aside0.mk H
                                  clear H
                                  as_aux_lemma =>
                                    go_wp2
                                    repeat (go_quiet (fail); try go_wp2)
                                    go_meet
                                    case rel => exact ⟨_, (true), (by first | rfl | (simp; done) | (simp [*]; done)), H', ⟨by have := HJ21.out; have := HJ29.out; have := HJ39.out; first | omega | exact Nat.le_refl _⟩, ⟨by (with_reducible repeat (first | apply Kd.R_alloc | apply Kd.R_drewN | apply Kd.R_drew)); exact Kd.R_mono (Kd.R_far (p := ⟨gb328, 2, none⟩) (Kd.R_far (p := ⟨gb328, 1, none⟩) (Kd.R_far (p := ⟨gb328, 0, none⟩) (Kd.R_types HO_312001.out BK328.out (by decide)) (fun _ hk => hk.2) (.string t320)) (fun _ hk => hk.2) (.slice Ao62 t321.length co62)) (fun _ hk => hk.2) (.slice Ao63 t324.length co63)) (fun _ hk => ⟨hk.1.1.1, ⟨hk.1.1.2, hk.1.2⟩⟩)⟩, ⟨by (with_reducible repeat (first | apply Kd.R_alloc | apply Kd.R_drewN | apply Kd.R_drew)); exact Kd.R_mono (Kd.R_far (p := ⟨gb328, 2, none⟩) (Kd.R_far (p := ⟨gb328, 1, none⟩) (Kd.R_far (p := ⟨gb328, 0, none⟩) (Kd.R_types HO_312002.out BK328.out (by decide)) (fun _ hk => hk.2) (.string t320)) (fun _ hk => hk.2) (.slice Ao62 t321.length co62)) (fun _ hk => hk.2) (.slice Ao63 t324.length co63)) (fun _ hk => ⟨hk.1.1.1, ⟨hk.1.1.2, hk.1.2⟩⟩)⟩, ⟨by (with_reducible repeat (first | apply Kd.R_alloc | apply Kd.R_drewN | apply Kd.R_drew)); exact Kd.R_mono (Kd.R_far (p := ⟨gb328, 2, none⟩) (Kd.R_far (p := ⟨gb328, 1, none⟩) (Kd.R_far (p := ⟨gb328, 0, none⟩) (Kd.R_types HO323.out BK328.out (by decide)) (fun _ hk => hk.2) (.string t320)) (fun _ hk => hk.2) (.slice Ao62 t321.length co62)) (fun _ hk => hk.2) (.slice Ao63 t324.length co63)) (fun _ hk => ⟨hk.1.1.2, ⟨hk.1.2, hk.1.1.1⟩⟩)⟩, ⟨by (with_reducible repeat (first | apply Kd.R_alloc | apply Kd.R_drewN | apply Kd.R_drew)); exact Kd.R_mono (Kd.R_far (p := ⟨gb328, 2, none⟩) (Kd.R_far (p := ⟨gb328, 1, none⟩) (Kd.R_far (p := ⟨gb328, 0, none⟩) (Kd.R_types HO326.out BK328.out (by decide)) (fun _ hk => hk.2) (.string t320)) (fun _ hk => hk.2) (.slice Ao62 t321.length co62)) (fun _ hk => hk.2) (.slice Ao63 t324.length co63)) (fun _ hk => ⟨hk.1.1.2, ⟨hk.1.2, hk.1.1.1⟩⟩)⟩, ⟨by (with_reducible repeat (first | refine blk_drewN ?_ _ | refine blk_drew ?_ | refine blk_alloc ?_ _)); refine blk_far ?_ NB311_328.out _; (with_reducible repeat (first | refine blk_drewN ?_ _ | refine blk_drew ?_ | refine blk_alloc ?_ _)); refine blk_far ?_ NB311_328.out _; (with_reducible repeat (first | refine blk_drewN ?_ _ | refine blk_drew ?_ | refine blk_alloc ?_ _)); refine blk_far ?_ NB311_328.out _; (with_reducible repeat (first | refine blk_drewN ?_ _ | refine blk_drew ?_ | refine blk_alloc ?_ _)); exact BK311.out⟩, ⟨by (with_reducible repeat (first | refine blk_drewN ?_ _ | refine blk_drew ?_ | refine blk_alloc ?_ _)); refine blk_put (cs := #[.string t320, .slice Ao62 t321.length co62, .slice none 0 0]) ?_ 2 _ rfl; (with_reducible repeat (first | refine blk_drewN ?_ _ | refine blk_drew ?_ | refine blk_alloc ?_ _)); refine blk_put (cs := #[.string t320, .slice none 0 0, .slice none 0 0]) ?_ 1 _ rfl; (with_reducible repeat (first | refine blk_drewN ?_ _ | refine blk_drew ?_ | refine blk_alloc ?_ _)); refine blk_put (cs := #[.string (⟨#[]⟩ : ByteArray), .slice none 0 0, .slice none 0 0]) ?_ 0 _ rfl; (with_reducible repeat (first | refine blk_drewN ?_ _ | refine blk_drew ?_ | refine blk_alloc ?_ _)); exact BK328.out⟩, ⟨by repeat (first | (with_reducible first | exact HB.out | apply below_alloc | apply pw_below_drewN | apply below_drew1 | refine below_set ?_ GE311.out | refine below_set ?_ GE328.out) | exact HB.out)⟩⟩
                              · rw [if_neg c67] at H
                                have c67b0 : (t327 == 0) = false := beq_eq_false_iff_ne.mpr c67
                                have c67b1 : (t327 != 0) = true := bne_iff_ne.mpr c67
                                have H' := Aside0.mk H
                                clear H
                                as_aux_lemma =>
                                  go_wp2
                                  repeat (go_quiet (fail); try go_wp2)
                                  go_meet
                                  case rel => exact ⟨_, (true), (by first | rfl | (simp; done) | (simp [*]; done)), H', ⟨by have := HJ21.out; have := HJ29.out; have := HJ39.out; first | omega | exact Nat.le_refl _⟩, ⟨by (with_reducible repeat (first | apply Kd.R_alloc | apply Kd.R_drewN | apply Kd.R_drew)); exact Kd.R_mono (Kd.R_far (p := ⟨gb328, 2, none⟩) (Kd.R_far (p := ⟨gb328, 1, none⟩) (Kd.R_far (p := ⟨gb328, 0, none⟩) (Kd.R_types HO_312001.out BK328.out (by decide)) (fun _ hk => hk.2) (.string t320)) (fun _ hk => hk.2) (.slice Ao62 t321.length co62)) (fun _ hk => hk.2) (.slice Ao63 t324.length co63)) (fun _ hk => ⟨hk.1.1.1, ⟨hk.1.1.2, hk.1.2⟩⟩)⟩, ⟨by (with_reducible repeat (first | apply Kd.R_alloc | apply Kd.R_drewN | apply Kd.R_drew)); exact Kd.R_mono (Kd.R_far (p := ⟨gb328, 2, none⟩) (Kd.R_far (p := ⟨gb328, 1, none⟩) (Kd.R_far (p := ⟨gb328, 0, none⟩) (Kd.R_types HO_312002.out BK328.out (by decide)) (fun _ hk => hk.2) (.string t320)) (fun _ hk => hk.2) (.slice Ao62 t321.length co62)) (fun _ hk => hk.2) (.slice Ao63 t324.length co63)) (fun _ hk => ⟨hk.1.1.1, ⟨hk.1.1.2, hk.1.2⟩⟩)⟩, ⟨by (with_reducible repeat (first | apply Kd.R_alloc | apply Kd.R_drewN | apply Kd.R_drew)); exact Kd.R_mono (Kd.R_far (p := ⟨gb328, 2, none⟩) (Kd.R_far (p := ⟨gb328, 1, none⟩) (Kd.R_far (p := ⟨gb328, 0, none⟩) (Kd.R_types HO323.out BK328.out (by decide)) (fun _ hk => hk.2) (.string t320)) (fun _ hk => hk.2) (.slice Ao62 t321.length co62)) (fun _ hk => hk.2) (.slice Ao63 t324.length co63)) (fun _ hk => ⟨hk.1.1.2, ⟨hk.1.2, hk.1.1.1⟩⟩)⟩, ⟨by (with_reducible repeat (first | apply Kd.R_alloc | apply Kd.R_drewN | apply Kd.R_drew)); exact Kd.R_mono (Kd.R_far (p := ⟨gb328, 2, none⟩) (Kd.R_far (p := ⟨gb328, 1, none⟩) (Kd.R_far (p := ⟨gb328, 0, none⟩) (Kd.R_types HO326.out BK328.out (by decide)) (fun _ hk => hk.2) (.string t320)) (fun _ hk => hk.2) (.slice Ao62 t321.length co62)) (fun _ hk => hk.2) (.slice Ao63 t324.length co63)) (fun _ hk => ⟨hk.1.1.2, ⟨hk.1.2, hk.1.1.1⟩⟩)⟩, ⟨by (with_reducible repeat (first | refine blk_drewN ?_ _ | refine blk_drew ?_ | refine blk_alloc ?_ _)); refine blk_far ?_ NB311_328.out _; (with_reducible repeat (first | refine blk_drewN ?_ _ | refine blk_drew ?_ | refine blk_alloc ?_ _)); refine blk_far ?_ NB311_328.out _; (with_reducible repeat (first | refine blk_drewN ?_ _ | refine blk_drew ?_ | refine blk_alloc ?_ _)); refine blk_far ?_ NB311_328.out _; (with_reducible repeat (first | refine blk_drewN ?_ _ | refine blk_drew ?_ | refine blk_alloc ?_ _)); exact BK311.out⟩, ⟨by (with_reducible repeat (first | refine blk_drewN ?_ _ | refine blk_drew ?_ | refine blk_alloc ?_ _)); refine blk_put (cs := #[.string t320, .slice Ao62 t321.length co62, .slice none 0 0]) ?_ 2 _ rfl; (with_reducible repeat (first | refine blk_drewN ?_ _ | refine blk_drew ?_ | refine blk_alloc ?_ _)); refine blk_put (cs := #[.string t320, .slice none 0 0, .slice none 0 0]) ?_ 1 _ rfl; (with_reducible repeat (first | refine blk_drewN ?_ _ | refine blk_drew ?_ | refine blk_alloc ?_ _)); refine blk_put (cs := #[.string (⟨#[]⟩ : ByteArray), .slice none 0 0, .slice none 0 0]) ?_ 0 _ rfl; (with_reducible repeat (first | refine blk_drewN ?_ _ | refine blk_drew ?_ | refine blk_alloc ?_ _)); exact BK328.out⟩, ⟨by repeat (first | (with_reducible first | exact HB.out | apply below_alloc | apply pw_below_drewN | apply below_drew1 | refine below_set ?_ GE311.out | refine below_set ?_ GE328.out) | exact HB.out)⟩⟩
                            · rw [if_neg c66] at H
                              have c66b0 : (t319 == 0) = false := beq_eq_false_iff_ne.mpr c66
                              have c66b1 : (t319 != 0) = true := bne_iff_ne.mpr c66
                              have H' := Aside0.mk H
                              clear H
                              as_aux_lemma =>
                                go_wp2
                                repeat (go_quiet (fail); try go_wp2)
                                go_meet
                                case rel => exact ⟨_, (true), (by first | rfl | (simp; done) | (simp [*]; done)), H', ⟨by have := HJ21.out; have := HJ29.out; have := HJ39.out; first | omega | exact Nat.le_refl _⟩, ⟨by (with_reducible repeat (first | apply Kd.R_alloc | apply Kd.R_drewN | apply Kd.R_drew)); exact Kd.R_mono (Kd.R_far (p := ⟨gb328, 2, none⟩) (Kd.R_far (p := ⟨gb328, 1, none⟩) (Kd.R_far (p := ⟨gb328, 0, none⟩) (Kd.R_types HO_312001.out BK328.out (by decide)) (fun _ hk => hk.2) (.string t320)) (fun _ hk => hk.2) (.slice Ao62 t321.length co62)) (fun _ hk => hk.2) (.slice Ao63 t324.length co63)) (fun _ hk => ⟨hk.1.1.1, ⟨hk.1.1.2, hk.1.2⟩⟩)⟩, ⟨by (with_reducible repeat (first | apply Kd.R_alloc | apply Kd.R_drewN | apply Kd.R_drew)); exact Kd.R_mono (Kd.R_far (p := ⟨gb328, 2, none⟩) (Kd.R_far (p := ⟨gb328, 1, none⟩) (Kd.R_far (p := ⟨gb328, 0, none⟩) (Kd.R_types HO_312002.out BK328.out (by decide)) (fun _ hk => hk.2) (.string t320)) (fun _ hk => hk.2) (.slice Ao62 t321.length co62)) (fun _ hk => hk.2) (.slice Ao63 t324.length co63)) (fun _ hk => ⟨hk.1.1.1, ⟨hk.1.1.2, hk.1.2⟩⟩)⟩, ⟨by (with_reducible repeat (first | apply Kd.R_alloc | apply Kd.R_drewN | apply Kd.R_drew)); exact Kd.R_mono (Kd.R_far (p := ⟨gb328, 2, none⟩) (Kd.R_far (p := ⟨gb328, 1, none⟩) (Kd.R_far (p := ⟨gb328, 0, none⟩) (Kd.R_types HO323.out BK328.out (by decide)) (fun _ hk => hk.2) (.string t320)) (fun _ hk => hk.2) (.slice Ao62 t321.length co62)) (fun _ hk => hk.2) (.slice Ao63 t324.length co63)) (fun _ hk => ⟨hk.1.1.2, ⟨hk.1.2, hk.1.1.1⟩⟩)⟩, ⟨by (with_reducible repeat (first | apply Kd.R_alloc | apply Kd.R_drewN | apply Kd.R_drew)); exact Kd.R_mono (Kd.R_far (p := ⟨gb328, 2, none⟩) (Kd.R_far (p := ⟨gb328, 1, none⟩) (Kd.R_far (p := ⟨gb328, 0, none⟩) (Kd.R_types HO326.out BK328.out (by decide)) (fun _ hk => hk.2) (.string t320)) (fun _ hk => hk.2) (.slice Ao62 t321.length co62)) (fun _ hk => hk.2) (.slice Ao63 t324.length co63)) (fun _ hk => ⟨hk.1.1.2, ⟨hk.1.2, hk.1.1.1⟩⟩)⟩, ⟨by (with_reducible repeat (first | refine blk_drewN ?_ _ | refine blk_drew ?_ | refine blk_alloc ?_ _)); refine blk_far ?_ NB311_328.out _; (with_reducible repeat (first | refine blk_drewN ?_ _ | refine blk_drew ?_ | refine blk_alloc ?_ _)); refine blk_far ?_ NB311_328.out _; (with_reducible repeat (first | refine blk_drewN ?_ _ | refine blk_drew ?_ | refine blk_alloc ?_ _)); refine blk_far ?_ NB311_328.out _; (with_reducible repeat (first | refine blk_drewN ?_ _ | refine blk_drew ?_ | refine blk_alloc ?_ _)); exact BK311.out⟩, ⟨by (with_reducible repeat (first | refine blk_drewN ?_ _ | refine blk_drew ?_ | refine blk_alloc ?_ _)); refine blk_put (cs := #[.string t320, .slice Ao62 t321.length co62, .slice none 0 0]) ?_ 2 _ rfl; (with_reducible repeat (first | refine blk_drewN ?_ _ | refine blk_drew ?_ | refine blk_alloc ?_ _)); refine blk_put (cs := #[.string t320, .slice none 0 0, .slice none 0 0]) ?_ 1 _ rfl; (with_reducible repeat (first | refine blk_drewN ?_ _ | refine blk_drew ?_ | refine blk_alloc ?_ _)); refine blk_put (cs := #[.string (⟨#[]⟩ : ByteArray), .slice none 0 0, .slice none 0 0]) ?_ 0 _ rfl; (with_reducible repeat (first | refine blk_drewN ?_ _ | refine blk_drew ?_ | refine blk_alloc ?_ _)); exact BK328.out⟩, ⟨by repeat (first | (with_reducible first | exact HB.out | apply below_alloc | apply pw_below_drewN | apply below_drew1 | refine below_set ?_ GE311.out | refine below_set ?_ GE328.out) | exact HB.out)⟩⟩
                          · rw [if_neg c65] at H
                            have c65b0 : (t317 == 0) = false := beq_eq_false_iff_ne.mpr c65
                            have c65b1 : (t317 != 0) = true := bne_iff_ne.mpr c65
                            have H' := Aside0.mk H
                            clear H
                            as_aux_lemma =>
                              go_wp2
                              repeat (go_quiet (fail); try go_wp2)
                              go_meet
                              case rel => exact ⟨_, (true), (by first | rfl | (simp; done) | (simp [*]; done)), H', ⟨by have := HJ21.out; have := HJ29.out; have := HJ39.out; first | omega | exact Nat.le_refl _⟩, ⟨by (with_reducible repeat (first | apply Kd.R_alloc | apply Kd.R_drewN | apply Kd.R_drew)); exact Kd.R_mono (Kd.R_far (p := ⟨gb328, 2, none⟩) (Kd.R_far (p := ⟨gb328, 1, none⟩) (Kd.R_far (p := ⟨gb328, 0, none⟩) (Kd.R_types HO_312001.out BK328.out (by decide)) (fun _ hk => hk.2) (.string t320)) (fun _ hk => hk.2) (.slice Ao62 t321.length co62)) (fun _ hk => hk.2) (.slice Ao63 t324.length co63)) (fun _ hk => ⟨hk.1.1.1, ⟨hk.1.1.2, hk.1.2⟩⟩)⟩, ⟨by (with_reducible repeat (first | apply Kd.R_alloc | apply Kd.R_drewN | apply Kd.R_drew)); exact Kd.R_mono (Kd.R_far (p := ⟨gb328, 2, none⟩) (Kd.R_far (p := ⟨gb328, 1, none⟩) (Kd.R_far (p := ⟨gb328, 0, none⟩) (Kd.R_types HO_312002.out BK328.out (by decide)) (fun _ hk => hk.2) (.string t320)) (fun _ hk => hk.2) (.slice Ao62 t321.length co62)) (fun _ hk => hk.2) (.slice Ao63 t324.length co63)) (fun _ hk => ⟨hk.1.1.1, ⟨hk.1.1.2, hk.1.2⟩⟩)⟩, ⟨by (with_reducible repeat (first | apply Kd.R_alloc | apply Kd.R_drewN | apply Kd.R_drew)); exact Kd.R_mono (Kd.R_far (p := ⟨gb328, 2, none⟩) (Kd.R_far (p := ⟨gb328, 1, none⟩) (Kd.R_far (p := ⟨gb328, 0, none⟩) (Kd.R_types HO323.out BK328.out (by decide)) (fun _ hk => hk.2) (.string t320)) (fun _ hk => hk.2) (.slice Ao62 t321.length co62)) (fun _ hk => hk.2) (.slice Ao63 t324.length co63)) (fun _ hk => ⟨hk.1.1.2, ⟨hk.1.2, hk.1.1.1⟩⟩)⟩, ⟨by (with_reducible repeat (first | apply Kd.R_alloc | apply Kd.R_drewN | apply Kd.R_drew)); exact Kd.R_mono (Kd.R_far (p := ⟨gb328, 2, none⟩) (Kd.R_far (p := ⟨gb328, 1, none⟩) (Kd.R_far (p := ⟨gb328, 0, none⟩) (Kd.R_types HO326.out BK328.out (by decide)) (fun _ hk => hk.2) (.string t320)) (fun _ hk => hk.2) (.slice Ao62 t321.length co62)) (fun _ hk => hk.2) (.slice Ao63 t324.length co63)) (fun _ hk => ⟨hk.1.1.2, ⟨hk.1.2, hk.1.1.1⟩⟩)⟩, ⟨by (with_reducible repeat (first | refine blk_drewN ?_ _ | refine blk_drew ?_ | refine blk_alloc ?_ _)); refine blk_far ?_ NB311_328.out _; (with_reducible repeat (first | refine blk_drewN ?_ _ | refine blk_drew ?_ | refine blk_alloc ?_ _)); refine blk_far ?_ NB311_328.out _; (with_reducible repeat (first | refine blk_drewN ?_ _ | refine blk_drew ?_ | refine blk_alloc ?_ _)); refine blk_far ?_ NB311_328.out _; (with_reducible repeat (first | refine blk_drewN ?_ _ | refine blk_drew ?_ | refine blk_alloc ?_ _)); exact BK311.out⟩, ⟨by (with_reducible repeat (first | refine blk_drewN ?_ _ | refine blk_drew ?_ | refine blk_alloc ?_ _)); refine blk_put (cs := #[.string t320, .slice Ao62 t321.length co62, .slice none 0 0]) ?_ 2 _ rfl; (with_reducible repeat (first | refine blk_drewN ?_ _ | refine blk_drew ?_ | refine blk_alloc ?_ _)); refine blk_put (cs := #[.string t320, .slice none 0 0, .slice none 0 0]) ?_ 1 _ rfl; (with_reducible repeat (first | refine blk_drewN ?_ _ | refine blk_drew ?_ | refine blk_alloc ?_ _)); refine blk_put (cs := #[.string (⟨#[]⟩ : ByteArray), .slice none 0 0, .slice none 0 0]) ?_ 0 _ rfl; (with_reducible repeat (first | refine blk_drewN ?_ _ | refine blk_drew ?_ | refine blk_alloc ?_ _)); exact BK328.out⟩, ⟨by repeat (first | (with_reducible first | exact HB.out | apply below_alloc | apply pw_below_drewN | apply below_drew1 | refine below_set ?_ GE311.out | refine below_set ?_ GE328.out) | exact HB.out)⟩⟩
                        · rw [if_neg c64] at H
                          have c64b0 : (t310 == 0) = false := beq_eq_false_iff_ne.mpr c64
                          have c64b1 : (t310 != 0) = true := bne_iff_ne.mpr c64
                          (first | rw [c64b0] | (simp only [i64_w, i32_w]; rw [c64b0]) | skip)
                          have H' := Aside0.mk H
                          clear H
                          as_aux_lemma =>
                            go_wp2
                            repeat (go_quiet (fail); try go_wp2)
                            go_meet
                            case rel => exact ⟨_, (true), (by first | rfl | (simp; done) | (simp [*]; done)), H', ⟨by have := HJ21.out; have := HJ29.out; have := HJ39.out; first | omega | exact Nat.le_refl _⟩, ⟨by (with_reducible repeat (first | apply Kd.R_alloc | apply Kd.R_drewN | apply Kd.R_drew)); exact Kd.R_mono (Kd.R_far (p := ⟨gb328, 2, none⟩) (Kd.R_far (p := ⟨gb328, 1, none⟩) (Kd.R_far (p := ⟨gb328, 0, none⟩) (Kd.R_types HO_312001.out BK328.out (by decide)) (fun _ hk => hk.2) (.string t320)) (fun _ hk => hk.2) (.slice Ao62 t321.length co62)) (fun _ hk => hk.2) (.slice Ao63 t324.length co63)) (fun _ hk => ⟨hk.1.1.1, ⟨hk.1.1.2, hk.1.2⟩⟩)⟩, ⟨by (with_reducible repeat (first | apply Kd.R_alloc | apply Kd.R_drewN | apply Kd.R_drew)); exact Kd.R_mono (Kd.R_far (p := ⟨gb328, 2, none⟩) (Kd.R_far (p := ⟨gb328, 1, none⟩) (Kd.R_far (p := ⟨gb328, 0, none⟩) (Kd.R_types HO_312002.out BK328.out (by decide)) (fun _ hk => hk.2) (.string t320)) (fun _ hk => hk.2) (.slice Ao62 t321.length co62)) (fun _ hk => hk.2) (.slice Ao63 t324.length co63)) (fun _ hk => ⟨hk.1.1.1, ⟨hk.1.1.2, hk.1.2⟩⟩)⟩, ⟨by (with_reducible repeat (first | apply Kd.R_alloc | apply Kd.R_drewN | apply Kd.R_drew)); exact Kd.R_mono (Kd.R_far (p := ⟨gb328, 2, none⟩) (Kd.R_far (p := ⟨gb328, 1, none⟩) (Kd.R_far (p := ⟨gb328, 0, none⟩) (Kd.R_types HO323.out BK328.out (by decide)) (fun _ hk => hk.2) (.string t320)) (fun _ hk => hk.2) (.slice Ao62 t321.length co62)) (fun _ hk => hk.2) (.slice Ao63 t324.length co63)) (fun _ hk => ⟨hk.1.1.2, ⟨hk.1.2, hk.1.1.1⟩⟩)⟩, ⟨by (with_reducible repeat (first | apply Kd.R_alloc | apply Kd.R_drewN | apply Kd.R_drew)); exact Kd.R_mono (Kd.R_far (p := ⟨gb328, 2, none⟩) (Kd.R_far (p := ⟨gb328, 1, none⟩) (Kd.R_far (p := ⟨gb328, 0, none⟩) (Kd.R_types HO326.out BK328.out (by decide)) (fun _ hk => hk.2) (.string t320)) (fun _ hk => hk.2) (.slice Ao62 t321.length co62)) (fun _ hk => hk.2) (.slice Ao63 t324.length co63)) (fun _ hk => ⟨hk.1.1.2, ⟨hk.1.2, hk.1.1.1⟩⟩)⟩, ⟨by (with_reducible repeat (first | refine blk_drewN ?_ _ | refine blk_drew ?_ | refine blk_alloc ?_ _)); refine blk_far ?_ NB311_328.out _; (with_reducible repeat (first | refine blk_drewN ?_ _ | refine blk_drew ?_ | refine blk_alloc ?_ _)); refine blk_far ?_ NB311_328.out _; (with_reducible repeat (first | refine blk_drewN ?_ _ | refine blk_drew ?_ | refine blk_alloc ?_ _)); refine blk_far ?_ NB311_328.out _; (with_reducible repeat (first | refine blk_drewN ?_ _ | refine blk_drew ?_ | refine blk_alloc ?_ _)); exact BK311.out⟩, ⟨by (with_reducible repeat (first | refine blk_drewN ?_ _ | refine blk_drew ?_ | refine blk_alloc ?_ _)); refine blk_put (cs := #[.string t320, .slice Ao62 t321.length co62, .slice none 0 0]) ?_ 2 _ rfl; (with_reducible repeat (first | refine blk_drewN ?_ _ | refine blk_drew ?_ | refine blk_alloc ?_ _)); refine blk_put (cs := #[.string t320, .slice none 0 0, .slice none 0 0]) ?_ 1 _ rfl; (with_reducible repeat (first | refine blk_drewN ?_ _ | refine blk_drew ?_ | refine blk_alloc ?_ _)); refine blk_put (cs := #[.string (⟨#[]⟩ : ByteArray), .slice none 0 0, .slice none 0 0]) ?_ 0 _ rfl; (with_reducible repeat (first | refine blk_drewN ?_ _ | refine blk_drew ?_ | refine blk_alloc ?_ _)); exact BK328.out⟩, ⟨by repeat (first | (with_reducible first | exact HB.out | apply below_alloc | apply pw_below_drewN | apply below_drew1 | refine below_set ?_ GE311.out | refine below_set ?_ GE328.out) | exact HB.out)⟩⟩
                      case rest => as_aux_lemma =>
                        clear HC52
                        (try clear c2); (try clear p2); (try clear c3); (try clear c4); (try clear c6); (try clear p6); (try clear c7); (try clear c8); (try clear c8b0); (try clear c8b1); (try clear c9); (try clear c9b0); (try clear c9b1); (try clear c29); (try clear c29b0); (try clear c29b1); (try clear c31); (try clear c32); (try clear c32b0); (try clear c33); (try clear c33b0); (try clear c33b1); (try clear c33b2); (try clear c35); (try clear c35b0); (try clear c35b1); (try clear c36); (try clear c36b0); (try clear c36b1); (try clear c42); (try clear c42b0); (try clear c42b1); (try clear c43); (try clear c44); (try clear c44b0); (try clear c44b1); (try clear c45); (try clear c46); (try clear c46b0); (try clear c46b1); (try clear c60); (try clear c64); (try clear c64b0); (try clear c64b1); (try clear p64); (try clear c65); (try clear c65b0); (try clear c65b1); (try clear c66); (try clear c66b0); (try clear c66b1); (try clear c67); (try clear c67b0); (try clear c67b1); (try clear c68); (try clear c69); (try clear c70); (try clear c70b0); (try clear c70b1); (try clear c71); (try clear c71b0); (try clear c71b1); (try clear c71b2); (try clear c72); (try clear c72b0); (try clear c72b1); (try clear c72b2); (try clear c73); (try clear c73b0); (try clear c74); (try clear c77); (try clear c78); (try clear c81); (try clear c84); (try clear c87); (try clear c90); (try clear hcz13_0); (try clear hcz13_1); (try clear hcz13_2); (try clear hcz19_0); (try clear hcz19_1); (try clear hcz19_2); (try clear hcz26_0); (try clear hcz26_1); (try clear hcz26_2); (try clear hcz47_0); (try clear hcz47_1); (try clear hcz47_2); (try clear hcz48_0); (try clear hcz48_1); (try clear hcz48_2); (try clear hcz53_0); (try clear hcz53_1); (try clear hcz53_2); (try clear hcz55_0); (try clear hcz55_1); (try clear hcz55_2); (try clear hcz57_0); (try clear hcz57_1); (try clear hcz57_2); (try clear hcz61_0); (try clear hcz61_1); (try clear hcz61_2); (try clear hcz75_0); (try clear hcz75_1); (try clear hcz75_2); (try clear hcz76_0); (try clear hcz76_1); (try clear hcz76_2); (try clear hcz79_0); (try clear hcz79_1); (try clear hcz79_2); (try clear hcz80_0); (try clear hcz80_1); (try clear hcz80_2); (try clear hcz82_0); (try clear hcz82_1); (try clear hcz82_2); (try clear hcz83_0); (try clear hcz83_1); (try clear hcz83_2); (try clear hcz85_0); (try clear hcz85_1); (try clear hcz85_2); (try clear hcz86_0); (try clear hcz86_1); (try clear hcz86_2); (try clear hcz88_0); (try clear hcz88_1); (try clear hcz88_2); (try clear hcz89_0); (try clear hcz89_1); (try clear hcz89_2); (try clear hcz91_0); (try clear hcz91_1); (try clear hcz91_2); (try clear hcz92_0); (try clear hcz92_1); (try clear hcz92_2); (try clear hfz13_0); (try clear hfz13_1); (try clear hfz13_2); (try clear hfz19_0); (try clear hfz19_1); (try clear hfz19_2); (try clear hfz26_0); (try clear hfz26_1); (try clear hfz26_2); (try clear hfz47_0); (try clear hfz47_1); (try clear hfz47_2); (try clear hfz48_0); (try clear hfz48_1); (try clear hfz48_2); (try clear hfz53_0); (try clear hfz53_1); (try clear hfz53_2); (try clear hfz55_0); (try clear hfz55_1); (try clear hfz55_2); (try clear hfz57_0); (try clear hfz57_1); (try clear hfz57_2); (try clear hfz61_0); (try clear hfz61_1); (try clear hfz61_2); (try clear hfz75_0); (try clear hfz75_1); (try clear hfz75_2); (try clear hfz76_0); (try clear hfz76_1); (try clear hfz76_2); (try clear hfz79_0); (try clear hfz79_1); (try clear hfz79_2); (try clear hfz80_0); (try clear hfz80_1); (try clear hfz80_2); (try clear hfz82_0); (try clear hfz82_1); (try clear hfz82_2); (try clear hfz83_0); (try clear hfz83_1); (try clear hfz83_2); (try clear hfz85_0); (try clear hfz85_1); (try clear hfz85_2); (try clear hfz86_0); (try clear hfz86_1); (try clear hfz86_2); (try clear hfz88_0); (try clear hfz88_1); (try clear hfz88_2); (try clear hfz89_0); (try clear hfz89_1); (try clear hfz89_2); (try clear hfz91_0); (try clear hfz91_1); (try clear hfz91_2); (try clear hfz92_0); (try clear hfz92_1); (try clear hfz92_2); (try clear p2); (try clear p6)
                        obtain ⟨kq, x198_51, rfl, HA, HJ51, HO_312001, HO_312002, HO_329001, HO_329002, BK311, BK328, HB⟩ := hcut
                        cases kq with
                        | zero => exact absurd HA.out (by simp [foghornlaw20_MendNever.j4])
                        | succ kj51 =>
                          have H := HA.out
                          clear HA
                          simp only [foghornlaw20_MendNever.j4] at H
                          by_cases c93 : x198_51 = true
                          · subst c93
                            have H1 : (some false) = some r := by rw [if_pos rfl] at H; exact H
                            clear H
                            have H := H1
                            clear H1
                            obtain rfl := Option.some.inj H
                            go_wp2
                            repeat (go_quiet (fail); try go_wp2)
                            go_ret
                            exact ⟨by first | rfl | (simp [errW_none, errW_some] <;> rfl) | (simp [*, errW_none, errW_some] <;> rfl), by repeat (first | (with_reducible first | exact HB.out | apply below_alloc | apply pw_below_drewN | apply below_drew1 | refine below_set ?_ GE311.out | refine below_set ?_ GE328.out) | exact HB.out)⟩
                          · replace c93 := Bool.eq_false_iff.mpr c93
                            subst c93
                            have H1 : (foghornlaw20_MendNever.l1 kj51 a0 l2 0 0 t303 t304 t307) = some r := by rw [if_neg (show ¬ (false = true) by decide)] at H; exact H
                            clear H
                            have H := H1
                            clear H1
                            have H' := Aside0.mk H
                            clear H
                            go_wp2
                            repeat (go_quiet (fail); try go_wp2)
                            (try simp only [add_off0])
                            go_loopg [20, 21] kj51 (fun kq v20 v21 w' => ∃ (x20_5 : Int) (x21_5 : Int), v20 = .int .i64 x20_5 ∧ v21 = .int .i64 x21_5 ∧ Aside0 (foghornlaw20_MendNever.l1 kq a0 l2 x20_5 x21_5 t303 t304 t307 = some r) ∧ Aside0 (kq ≤ kj51) ∧ Aside0 (Kd.R (Kd.int .i64) 3 w' w.heap.size (fun k_ => some k_ ≠ ((.slice Ao28 t307.length co28) : Value).ownBlock ∧ some k_ ≠ ((.slice Ao62 t321.length co62) : Value).ownBlock ∧ some k_ ≠ ((.slice Ao63 t324.length co63) : Value).ownBlock) (.slice Ao27 t304.length co27) t304) ∧ Aside0 (Kd.R (Kd.int .i64) 3 w' w.heap.size (fun k_ => some k_ ≠ ((.slice Ao27 t304.length co27) : Value).ownBlock ∧ some k_ ≠ ((.slice Ao62 t321.length co62) : Value).ownBlock ∧ some k_ ≠ ((.slice Ao63 t324.length co63) : Value).ownBlock) (.slice Ao28 t307.length co28) t307) ∧ Aside0 (Kd.R (Kd.int .i64) 3 w' w.heap.size (fun k_ => some k_ ≠ ((.slice Ao27 t304.length co27) : Value).ownBlock ∧ some k_ ≠ ((.slice Ao28 t307.length co28) : Value).ownBlock ∧ some k_ ≠ ((.slice Ao63 t324.length co63) : Value).ownBlock) (.slice Ao62 t321.length co62) t321) ∧ Aside0 (Kd.R (Kd.int .i64) 3 w' w.heap.size (fun k_ => some k_ ≠ ((.slice Ao27 t304.length co27) : Value).ownBlock ∧ some k_ ≠ ((.slice Ao28 t307.length co28) : Value).ownBlock ∧ some k_ ≠ ((.slice Ao62 t321.length co62) : Value).ownBlock) (.slice Ao63 t324.length co63) t324) ∧ Aside0 (w'.heap[gb311]? = some (.cells #[.string t303, (.slice Ao27 t304.length co27), (.slice Ao28 t307.length co28)] 31 (0, 0))) ∧ Aside0 (w'.heap[gb328]? = some (.cells #[.string t320, (.slice Ao62 t321.length co62), (.slice Ao63 t324.length co63)] 31 (0, 0))) ∧ Aside0 (Below w.heap.size w w'))
                            case atStart => exact ⟨(0), (0), (by first | rfl | (simp; done) | (simp [*]; done)), (by first | rfl | (simp; done) | (simp [*]; done)), H', ⟨Nat.le_refl _⟩, ⟨by (with_reducible repeat (first | apply Kd.R_alloc | apply Kd.R_drewN | apply Kd.R_drew)); exact HO_312001.out⟩, ⟨by (with_reducible repeat (first | apply Kd.R_alloc | apply Kd.R_drewN | apply Kd.R_drew)); exact HO_312002.out⟩, ⟨by (with_reducible repeat (first | apply Kd.R_alloc | apply Kd.R_drewN | apply Kd.R_drew)); exact HO_329001.out⟩, ⟨by (with_reducible repeat (first | apply Kd.R_alloc | apply Kd.R_drewN | apply Kd.R_drew)); exact HO_329002.out⟩, ⟨by (with_reducible repeat (first | refine blk_drewN ?_ _ | refine blk_drew ?_ | refine blk_alloc ?_ _)); exact BK311.out⟩, ⟨by (with_reducible repeat (first | refine blk_drewN ?_ _ | refine blk_drew ?_ | refine blk_alloc ?_ _)); exact BK328.out⟩, ⟨by repeat (first | (with_reducible first | exact HB.out | apply below_alloc | apply pw_below_drewN | apply below_drew1 | refine below_set ?_ GE311.out | refine below_set ?_ GE328.out) | exact HB.out)⟩⟩
                            case round => as_aux_lemma =>
                              clear H'
                              (try clear c2); (try clear p2); (try clear c3); (try clear c4); (try clear c6); (try clear p6); (try clear c7); (try clear c8); (try clear c8b0); (try clear c8b1); (try clear c9); (try clear c9b0); (try clear c9b1); (try clear c29); (try clear c29b0); (try clear c29b1); (try clear c31); (try clear c32); (try clear c32b0); (try clear c33); (try clear c33b0); (try clear c33b1); (try clear c33b2); (try clear c35); (try clear c35b0); (try clear c35b1); (try clear c36); (try clear c36b0); (try clear c36b1); (try clear c42); (try clear c42b0); (try clear c42b1); (try clear c43); (try clear c44); (try clear c44b0); (try clear c44b1); (try clear c45); (try clear c46); (try clear c46b0); (try clear c46b1); (try clear c60); (try clear c64); (try clear c64b0); (try clear c64b1); (try clear p64); (try clear c65); (try clear c65b0); (try clear c65b1); (try clear c66); (try clear c66b0); (try clear c66b1); (try clear c67); (try clear c67b0); (try clear c67b1); (try clear c68); (try clear c69); (try clear c70); (try clear c70b0); (try clear c70b1); (try clear c71); (try clear c71b0); (try clear c71b1); (try clear c71b2); (try clear c72); (try clear c72b0); (try clear c72b1); (try clear c72b2); (try clear c73); (try clear c73b0); (try clear c74); (try clear c77); (try clear c78); (try clear c81); (try clear c84); (try clear c87); (try clear c90); (try clear c93); (try clear hcz13_0); (try clear hcz13_1); (try clear hcz13_2); (try clear hcz19_0); (try clear hcz19_1); (try clear hcz19_2); (try clear hcz26_0); (try clear hcz26_1); (try clear hcz26_2); (try clear hcz47_0); (try clear hcz47_1); (try clear hcz47_2); (try clear hcz48_0); (try clear hcz48_1); (try clear hcz48_2); (try clear hcz53_0); (try clear hcz53_1); (try clear hcz53_2); (try clear hcz55_0); (try clear hcz55_1); (try clear hcz55_2); (try clear hcz57_0); (try clear hcz57_1); (try clear hcz57_2); (try clear hcz61_0); (try clear hcz61_1); (try clear hcz61_2); (try clear hcz75_0); (try clear hcz75_1); (try clear hcz75_2); (try clear hcz76_0); (try clear hcz76_1); (try clear hcz76_2); (try clear hcz79_0); (try clear hcz79_1); (try clear hcz79_2); (try clear hcz80_0); (try clear hcz80_1); (try clear hcz80_2); (try clear hcz82_0); (try clear hcz82_1); (try clear hcz82_2); (try clear hcz83_0); (try clear hcz83_1); (try clear hcz83_2); (try clear hcz85_0); (try clear hcz85_1); (try clear hcz85_2); (try clear hcz86_0); (try clear hcz86_1); (try clear hcz86_2); (try clear hcz88_0); (try clear hcz88_1); (try clear hcz88_2); (try clear hcz89_0); (try clear hcz89_1); (try clear hcz89_2); (try clear hcz91_0); (try clear hcz91_1); (try clear hcz91_2); (try clear hcz92_0); (try clear hcz92_1); (try clear hcz92_2); (try clear hfz13_0); (try clear hfz13_1); (try clear hfz13_2); (try clear hfz19_0); (try clear hfz19_1); (try clear hfz19_2); (try clear hfz26_0); (try clear hfz26_1); (try clear hfz26_2); (try clear hfz47_0); (try clear hfz47_1); (try clear hfz47_2); (try clear hfz48_0); (try clear hfz48_1); (try clear hfz48_2); (try clear hfz53_0); (try clear hfz53_1); (try clear hfz53_2); (try clear hfz55_0); (try clear hfz55_1); (try clear hfz55_2); (try clear hfz57_0); (try clear hfz57_1); (try clear hfz57_2); (try clear hfz61_0); (try clear hfz61_1); (try clear hfz61_2); (try clear hfz75_0); (try clear hfz75_1); (try clear hfz75_2); (try clear hfz76_0); (try clear hfz76_1); (try clear hfz76_2); (try clear hfz79_0); (try clear hfz79_1); (try clear hfz79_2); (try clear hfz80_0); (try clear hfz80_1); (try clear hfz80_2); (try clear hfz82_0); (try clear hfz82_1); (try clear hfz82_2); (try clear hfz83_0); (try clear hfz83_1); (try clear hfz83_2); (try clear hfz85_0); (try clear hfz85_1); (try clear hfz85_2); (try clear hfz86_0); (try clear hfz86_1); (try clear hfz86_2); (try clear hfz88_0); (try clear hfz88_1); (try clear hfz88_2); (try clear hfz89_0); (try clear hfz89_1); (try clear hfz89_2); (try clear hfz91_0); (try clear hfz91_1); (try clear hfz91_2); (try clear hfz92_0); (try clear hfz92_1); (try clear hfz92_2); (try clear p2); (try clear p6); (try clear p64)
                              obtain ⟨x20_5, x21_5, rfl, rfl, HA, HK5, HO_312001, HO_312002, HO_329001, HO_329002, BK311, BK328, HB⟩ := hrel
                              cases gk with
                              | zero => exact absurd HA.out (by simp [foghornlaw20_MendNever.l1])
                              | succ k5 =>
                                have H := HA.out
                                clear HA
                                simp only [foghornlaw20_MendNever.l1] at H
                                by_cases c94 : x21_5 < (a0.size : Int)
                                · rw [if_pos c94] at H
                                  have c94b0 : decide (x21_5 < (a0.size : Int)) = true := decide_eq_true c94
                                  clear c94
                                  have H' := Aside0.mk H
                                  clear H
                                  go_wp2
                                  repeat (go_quiet (fail); try go_wp2)
                                  (try simp only [add_off0])
                                  go_loopg [22, 23] k5 (fun kq v22 v23 w' => ∃ (x22_6 : Bool) (x23_6 : Int), v22 = .bool x22_6 ∧ v23 = .int .i64 x23_6 ∧ Aside0 (foghornlaw20_MendNever.l2 kq a0 l2 x20_5 x21_5 x22_6 x23_6 t303 t304 t307 = some r) ∧ Aside0 (kq ≤ k5) ∧ Aside0 (Kd.R (Kd.int .i64) 3 w' w.heap.size (fun k_ => some k_ ≠ ((.slice Ao28 t307.length co28) : Value).ownBlock ∧ some k_ ≠ ((.slice Ao62 t321.length co62) : Value).ownBlock ∧ some k_ ≠ ((.slice Ao63 t324.length co63) : Value).ownBlock) (.slice Ao27 t304.length co27) t304) ∧ Aside0 (Kd.R (Kd.int .i64) 3 w' w.heap.size (fun k_ => some k_ ≠ ((.slice Ao27 t304.length co27) : Value).ownBlock ∧ some k_ ≠ ((.slice Ao62 t321.length co62) : Value).ownBlock ∧ some k_ ≠ ((.slice Ao63 t324.length co63) : Value).ownBlock) (.slice Ao28 t307.length co28) t307) ∧ Aside0 (Kd.R (Kd.int .i64) 3 w' w.heap.size (fun k_ => some k_ ≠ ((.slice Ao27 t304.length co27) : Value).ownBlock ∧ some k_ ≠ ((.slice Ao28 t307.length co28) : Value).ownBlock ∧ some k_ ≠ ((.slice Ao63 t324.length co63) : Value).ownBlock) (.slice Ao62 t321.length co62) t321) ∧ Aside0 (Kd.R (Kd.int .i64) 3 w' w.heap.size (fun k_ => some k_ ≠ ((.slice Ao27 t304.length co27) : Value).ownBlock ∧ some k_ ≠ ((.slice Ao28 t307.length co28) : Value).ownBlock ∧ some k_ ≠ ((.slice Ao62 t321.length co62) : Value).ownBlock) (.slice Ao63 t324.length co63) t324) ∧ Aside0 (w'.heap[gb311]? = some (.cells #[.string t303, (.slice Ao27 t304.length co27), (.slice Ao28 t307.length co28)] 31 (0, 0))) ∧ Aside0 (w'.heap[gb328]? = some (.cells #[.string t320, (.slice Ao62 t321.length co62), (.slice Ao63 t324.length co63)] 31 (0, 0))) ∧ Aside0 (Below w.heap.size w w'))
                                  case atStart => exact ⟨(false), (0), (by first | rfl | (simp; done) | (simp [*]; done)), (by first | rfl | (simp; done) | (simp [*]; done)), H', ⟨Nat.le_refl _⟩, ⟨by (with_reducible repeat (first | apply Kd.R_alloc | apply Kd.R_drewN | apply Kd.R_drew)); exact HO_312001.out⟩, ⟨by (with_reducible repeat (first | apply Kd.R_alloc | apply Kd.R_drewN | apply Kd.R_drew)); exact HO_312002.out⟩, ⟨by (with_reducible repeat (first | apply Kd.R_alloc | apply Kd.R_drewN | apply Kd.R_drew)); exact HO_329001.out⟩, ⟨by (with_reducible repeat (first | apply Kd.R_alloc | apply Kd.R_drewN | apply Kd.R_drew)); exact HO_329002.out⟩, ⟨by (with_reducible repeat (first | refine blk_drewN ?_ _ | refine blk_drew ?_ | refine blk_alloc ?_ _)); exact BK311.out⟩, ⟨by (with_reducible repeat (first | refine blk_drewN ?_ _ | refine blk_drew ?_ | refine blk_alloc ?_ _)); exact BK328.out⟩, ⟨by repeat (first | (with_reducible first | exact HB.out | apply below_alloc | apply pw_below_drewN | apply below_drew1 | refine below_set ?_ GE311.out | refine below_set ?_ GE328.out) | exact HB.out)⟩⟩
                                  case round => as_aux_lemma =>
                                    clear H'
                                    (try clear c2); (try clear p2); (try clear c3); (try clear c4); (try clear c6); (try clear p6); (try clear c7); (try clear c8); (try clear c8b0); (try clear c8b1); (try clear c9); (try clear c9b0); (try clear c9b1); (try clear c29); (try clear c29b0); (try clear c29b1); (try clear c31); (try clear c32); (try clear c32b0); (try clear c33); (try clear c33b0); (try clear c33b1); (try clear c33b2); (try clear c35); (try clear c35b0); (try clear c35b1); (try clear c36); (try clear c36b0); (try clear c36b1); (try clear c42); (try clear c42b0); (try clear c42b1); (try clear c43); (try clear c44); (try clear c44b0); (try clear c44b1); (try clear c45); (try clear c46); (try clear c46b0); (try clear c46b1); (try clear c60); (try clear c64); (try clear c64b0); (try clear c64b1); (try clear p64); (try clear c65); (try clear c65b0); (try clear c65b1); (try clear c66); (try clear c66b0); (try clear c66b1); (try clear c67); (try clear c67b0); (try clear c67b1); (try clear c68); (try clear c69); (try clear c70); (try clear c70b0); (try clear c70b1); (try clear c71); (try clear c71b0); (try clear c71b1); (try clear c71b2); (try clear c72); (try clear c72b0); (try clear c72b1); (try clear c72b2); (try clear c73); (try clear c73b0); (try clear c74); (try clear c77); (try clear c78); (try clear c81); (try clear c84); (try clear c87); (try clear c90); (try clear c93); (try clear c94); (try clear c94b0); (try clear hcz13_0); (try clear hcz13_1); (try clear hcz13_2); (try clear hcz19_0); (try clear hcz19_1); (try clear hcz19_2); (try clear hcz26_0); (try clear hcz26_1); (try clear hcz26_2); (try clear hcz47_0); (try clear hcz47_1); (try clear hcz47_2); (try clear hcz48_0); (try clear hcz48_1); (try clear hcz48_2); (try clear hcz53_0); (try clear hcz53_1); (try clear hcz53_2); (try clear hcz55_0); (try clear hcz55_1); (try clear hcz55_2); (try clear hcz57_0); (try clear hcz57_1); (try clear hcz57_2); (try clear hcz61_0); (try clear hcz61_1); (try clear hcz61_2); (try clear hcz75_0); (try clear hcz75_1); (try clear hcz75_2); (try clear hcz76_0); (try clear hcz76_1); (try clear hcz76_2); (try clear hcz79_0); (try clear hcz79_1); (try clear hcz79_2); (try clear hcz80_0); (try clear hcz80_1); (try clear hcz80_2); (try clear hcz82_0); (try clear hcz82_1); (try clear hcz82_2); (try clear hcz83_0); (try clear hcz83_1); (try clear hcz83_2); (try clear hcz85_0); (try clear hcz85_1); (try clear hcz85_2); (try clear hcz86_0); (try clear hcz86_1); (try clear hcz86_2); (try clear hcz88_0); (try clear hcz88_1); (try clear hcz88_2); (try clear hcz89_0); (try clear hcz89_1); (try clear hcz89_2); (try clear hcz91_0); (try clear hcz91_1); (try clear hcz91_2); (try clear hcz92_0); (try clear hcz92_1); (try clear hcz92_2); (try clear hfz13_0); (try clear hfz13_1); (try clear hfz13_2); (try clear hfz19_0); (try clear hfz19_1); (try clear hfz19_2); (try clear hfz26_0); (try clear hfz26_1); (try clear hfz26_2); (try clear hfz47_0); (try clear hfz47_1); (try clear hfz47_2); (try clear hfz48_0); (try clear hfz48_1); (try clear hfz48_2); (try clear hfz53_0); (try clear hfz53_1); (try clear hfz53_2); (try clear hfz55_0); (try clear hfz55_1); (try clear hfz55_2); (try clear hfz57_0); (try clear hfz57_1); (try clear hfz57_2); (try clear hfz61_0); (try clear hfz61_1); (try clear hfz61_2); (try clear hfz75_0); (try clear hfz75_1); (try clear hfz75_2); (try clear hfz76_0); (try clear hfz76_1); (try clear hfz76_2); (try clear hfz79_0); (try clear hfz79_1); (try clear hfz79_2); (try clear hfz80_0); (try clear hfz80_1); (try clear hfz80_2); (try clear hfz82_0); (try clear hfz82_1); (try clear hfz82_2); (try clear hfz83_0); (try clear hfz83_1); (try clear hfz83_2); (try clear hfz85_0); (try clear hfz85_1); (try clear hfz85_2); (try clear hfz86_0); (try clear hfz86_1); (try clear hfz86_2); (try clear hfz88_0); (try clear hfz88_1); (try clear hfz88_2); (try clear hfz89_0); (try clear hfz89_1); (try clear hfz89_2); (try clear hfz91_0); (try clear hfz91_1); (try clear hfz91_2); (try clear hfz92_0); (try clear hfz92_1); (try clear hfz92_2); (try clear p2); (try clear p6); (try clear p64)
                                    obtain ⟨x22_6, x23_6, rfl, rfl, HA, HK6, HO_312001, HO_312002, HO_329001, HO_329002, BK311, BK328, HB⟩ := hrel
                                    cases gk with
                                    | zero => exact absurd HA.out (by simp [foghornlaw20_MendNever.l2])
                                    | succ k6 =>
                                      have H := HA.out
                                      clear HA
                                      simp only [foghornlaw20_MendNever.l2] at H
                                      by_cases c95 : x23_6 < (l2.length : Int)
                                      · rw [if_pos c95] at H
                                        have c95b0 : decide (x23_6 < (l2.length : Int)) = true := decide_eq_true c95
                                        clear c95
                                        by_cases c96 : x22_6 = true
                                        · subst c96
                                          have H1 : (foghornlaw20_MendNever.l2 k6 a0 l2 x20_5 x21_5 true (wrap64 (x23_6 + 1)) t303 t304 t307) = some r := by rw [if_pos rfl] at H; exact H
                                          clear H
                                          have H := H1
                                          clear H1
                                          have H' := Aside0.mk H
                                          clear H
                                          as_aux_lemma =>
                                            go_wp2
                                            repeat (go_quiet (fail); try go_wp2)
                                            refine Handed.intro k6 ?measure ?_
                                            rotate_left
                                            go_step
                                            (try simp only [add_off0])
                                            (repeat apply Exists.intro)
                                            refine ⟨?rel, rfl⟩
                                            case measure => have := HJ21.out; have := HJ29.out; have := HJ39.out; have := HJ51.out; have := HK5.out; have := HK6.out; omega
                                            case rel => exact ⟨(true), (wrap64 (x23_6 + 1)), (by first | rfl | (simp; done) | (simp [*]; done)), (by first | rfl | (simp; done) | (simp [*]; done)), H', ⟨by have := HJ21.out; have := HJ29.out; have := HJ39.out; have := HJ51.out; have := HK5.out; have := HK6.out; omega⟩, ⟨by (with_reducible repeat (first | apply Kd.R_alloc | apply Kd.R_drewN | apply Kd.R_drew)); exact HO_312001.out⟩, ⟨by (with_reducible repeat (first | apply Kd.R_alloc | apply Kd.R_drewN | apply Kd.R_drew)); exact HO_312002.out⟩, ⟨by (with_reducible repeat (first | apply Kd.R_alloc | apply Kd.R_drewN | apply Kd.R_drew)); exact HO_329001.out⟩, ⟨by (with_reducible repeat (first | apply Kd.R_alloc | apply Kd.R_drewN | apply Kd.R_drew)); exact HO_329002.out⟩, ⟨by (with_reducible repeat (first | refine blk_drewN ?_ _ | refine blk_drew ?_ | refine blk_alloc ?_ _)); exact BK311.out⟩, ⟨by (with_reducible repeat (first | refine blk_drewN ?_ _ | refine blk_drew ?_ | refine blk_alloc ?_ _)); exact BK328.out⟩, ⟨by repeat (first | (with_reducible first | exact HB.out | apply below_alloc | apply pw_below_drewN | apply below_drew1 | refine below_set ?_ GE311.out | refine below_set ?_ GE328.out) | exact HB.out)⟩⟩
                                        · replace c96 := Bool.eq_false_iff.mpr c96
                                          subst c96
                                          have H1 : (if 0 ≤ x23_6 then (foghornlaw20_MendNever.l2 k6 a0 l2 x20_5 x21_5 ((rd l2 x23_6) == x21_5) (wrap64 (x23_6 + 1)) t303 t304 t307) else (none)) = some r := by rw [if_neg (show ¬ (false = true) by decide)] at H; exact H
                                          clear H
                                          have H := H1
                                          clear H1
                                          by_cases c97 : 0 ≤ x23_6
                                          · rw [if_pos c97] at H
                                            have c97b0 : decide (0 ≤ x23_6) = true := decide_eq_true c97
                                            clear c97
                                            have H' := Aside0.mk H
                                            clear H
                                            have p329 : 0 ≤ (x23_6 : Int) := of_decide_eq_true (by first | (with_reducible assumption) | assumption)
                                            have q329 : x23_6 < (l2.length : Int) := of_decide_eq_true (by first | (with_reducible assumption) | assumption)
                                            obtain ⟨ad329, e329, hx329_0⟩ := Kd.at_int HR2.out x23_6 p329 q329
                                            cases e329
                                            replace hx329_0 := (HB.out.cell (World.block_lt_of_cell? w _ hx329_0)).trans hx329_0
                                            replace p329 := eq_true p329
                                            replace q329 := eq_true q329
                                            as_aux_lemma =>
                                              go_wp2
                                              repeat (go_quiet (fail); try go_wp2)
                                              refine Handed.intro k6 ?measure ?_
                                              rotate_left
                                              go_step
                                              (try simp only [add_off0])
                                              (repeat apply Exists.intro)
                                              refine ⟨?rel, rfl⟩
                                              case measure => have := HJ21.out; have := HJ29.out; have := HJ39.out; have := HJ51.out; have := HK5.out; have := HK6.out; omega
                                              case rel => exact ⟨(((rd l2 x23_6) == x21_5)), (wrap64 (x23_6 + 1)), (by first | rfl | (simp; done) | (simp [*]; done)), (by first | rfl | (simp; done) | (simp [*]; done)), H', ⟨by have := HJ21.out; have := HJ29.out; have := HJ39.out; have := HJ51.out; have := HK5.out; have := HK6.out; omega⟩, ⟨by (with_reducible repeat (first | apply Kd.R_alloc | apply Kd.R_drewN | apply Kd.R_drew)); exact HO_312001.out⟩, ⟨by (with_reducible repeat (first | apply Kd.R_alloc | apply Kd.R_drewN | apply Kd.R_drew)); exact HO_312002.out⟩, ⟨by (with_reducible repeat (first | apply Kd.R_alloc | apply Kd.R_drewN | apply Kd.R_drew)); exact HO_329001.out⟩, ⟨by (with_reducible repeat (first | apply Kd.R_alloc | apply Kd.R_drewN | apply Kd.R_drew)); exact HO_329002.out⟩, ⟨by (with_reducible repeat (first | refine blk_drewN ?_ _ | refine blk_drew ?_ | refine blk_alloc ?_ _)); exact BK311.out⟩, ⟨by (with_reducible repeat (first | refine blk_drewN ?_ _ | refine blk_drew ?_ | refine blk_alloc ?_ _)); exact BK328.out⟩, ⟨by repeat (first | (with_reducible first | exact HB.out | apply below_alloc | apply pw_below_drewN | apply below_drew1 | refine below_set ?_ GE311.out | refine below_set ?_ GE328.out) | exact HB.out)⟩⟩
                                          · rw [if_neg c97] at H
                                            exact absurd H (by simp)
                                      · rw [if_neg c95] at H
                                        have c95b0 : decide (x23_6 < (l2.length : Int)) = false := decide_eq_false c95
                                        clear c95
                                        have HC98 := Aside0.mk H
                                        clear H
                                        go_upto_region 30 with (fail)
                                        repeat (go_quiet (fail); go_upto_region 30 with (fail))
                                        go_cut [231] (fun v231 wc => ∃ (kq : Nat) (x231_97 : Bool), v231 = .bool x231_97 ∧ Aside0 (foghornlaw20_MendNever.j7 kq a0 l2 x20_5 x21_5 x231_97 t303 t304 t307 = some r) ∧ Aside0 (kq ≤ k6) ∧ Aside0 (Kd.R (Kd.int .i64) 3 wc w.heap.size (fun k_ => some k_ ≠ ((.slice Ao28 t307.length co28) : Value).ownBlock ∧ some k_ ≠ ((.slice Ao62 t321.length co62) : Value).ownBlock ∧ some k_ ≠ ((.slice Ao63 t324.length co63) : Value).ownBlock) (.slice Ao27 t304.length co27) t304) ∧ Aside0 (Kd.R (Kd.int .i64) 3 wc w.heap.size (fun k_ => some k_ ≠ ((.slice Ao27 t304.length co27) : Value).ownBlock ∧ some k_ ≠ ((.slice Ao62 t321.length co62) : Value).ownBlock ∧ some k_ ≠ ((.slice Ao63 t324.length co63) : Value).ownBlock) (.slice Ao28 t307.length co28) t307) ∧ Aside0 (Kd.R (Kd.int .i64) 3 wc w.heap.size (fun k_ => some k_ ≠ ((.slice Ao27 t304.length co27) : Value).ownBlock ∧ some k_ ≠ ((.slice Ao28 t307.length co28) : Value).ownBlock ∧ some k_ ≠ ((.slice Ao63 t324.length co63) : Value).ownBlock) (.slice Ao62 t321.length co62) t321) ∧ Aside0 (Kd.R (Kd.int .i64) 3 wc w.heap.size (fun k_ => some k_ ≠ ((.slice Ao27 t304.length co27) : Value).ownBlock ∧ some k_ ≠ ((.slice Ao28 t307.length co28) : Value).ownBlock ∧ some k_ ≠ ((.slice Ao62 t321.length co62) : Value).ownBlock) (.slice Ao63 t324.length co63) t324) ∧ Aside0 (wc.heap[gb311]? = some (.cells #[.string t303, (.slice Ao27 t304.length co27), (.slice Ao28 t307.length co28)] 31 (0, 0))) ∧ Aside0 (wc.heap[gb328]? = some (.cells #[.string t320, (.slice Ao62 t321.length co62), (.slice Ao63 t324.length co63)] 31 (0, 0))) ∧ Aside0 (Below w.heap.size w wc))
                                        case first => as_aux_lemma =>
                                          have H := HC98.out
                                          clear HC98
                                          by_cases c99 : x22_6 = true
                                          · subst c99
                                            have H1 : (foghornlaw20_MendNever.j7 k6 a0 l2 x20_5 x21_5 false t303 t304 t307) = some r := by rw [if_pos rfl] at H; exact H
                                            clear H
                                            have H := H1
                                            clear H1
                                            have H' := Aside0.mk H
                                            clear H
                                            as_aux_lemma =>
                                              go_wp2
                                              repeat (go_quiet (fail); try go_wp2)
                                              go_meet
                                              case rel => exact ⟨_, (false), (by first | rfl | (simp; done) | (simp [*]; done)), H', ⟨by have := HJ21.out; have := HJ29.out; have := HJ39.out; have := HJ51.out; have := HK5.out; have := HK6.out; first | omega | exact Nat.le_refl _⟩, ⟨by (with_reducible repeat (first | apply Kd.R_alloc | apply Kd.R_drewN | apply Kd.R_drew)); exact HO_312001.out⟩, ⟨by (with_reducible repeat (first | apply Kd.R_alloc | apply Kd.R_drewN | apply Kd.R_drew)); exact HO_312002.out⟩, ⟨by (with_reducible repeat (first | apply Kd.R_alloc | apply Kd.R_drewN | apply Kd.R_drew)); exact HO_329001.out⟩, ⟨by (with_reducible repeat (first | apply Kd.R_alloc | apply Kd.R_drewN | apply Kd.R_drew)); exact HO_329002.out⟩, ⟨by (with_reducible repeat (first | refine blk_drewN ?_ _ | refine blk_drew ?_ | refine blk_alloc ?_ _)); exact BK311.out⟩, ⟨by (with_reducible repeat (first | refine blk_drewN ?_ _ | refine blk_drew ?_ | refine blk_alloc ?_ _)); exact BK328.out⟩, ⟨by repeat (first | (with_reducible first | exact HB.out | apply below_alloc | apply pw_below_drewN | apply below_drew1 | refine below_set ?_ GE311.out | refine below_set ?_ GE328.out) | exact HB.out)⟩⟩
                                          · replace c99 := Bool.eq_false_iff.mpr c99
                                            subst c99
                                            have H1 : (if 0 ≤ x21_5 then (if x21_5 < (a0.size : Int) then (if x21_5 < (t303.size : Int) then (foghornlaw20_MendNever.j7 k6 a0 l2 x20_5 x21_5 ((bt a0 x21_5) != (bt t303 x21_5)) t303 t304 t307) else (none)) else (none)) else (none)) = some r := by rw [if_neg (show ¬ (false = true) by decide)] at H; exact H
                                            clear H
                                            have H := H1
                                            clear H1
                                            by_cases c100 : 0 ≤ x21_5
                                            · rw [if_pos c100] at H
                                              have c100b0 : decide (0 ≤ x21_5) = true := decide_eq_true c100
                                              clear c100
                                              (first | rw [c100b0] | (simp only [i64_w, i32_w]; rw [c100b0]) | skip)
                                              by_cases c101 : x21_5 < (a0.size : Int)
                                              · rw [if_pos c101] at H
                                                have c101b0 : decide (x21_5 < (a0.size : Int)) = true := decide_eq_true c101
                                                clear c101
                                                by_cases c103 : x21_5 < (t303.size : Int)
                                                · rw [if_pos c103] at H
                                                  have c103b0 : decide (x21_5 < (t303.size : Int)) = true := decide_eq_true c103
                                                  clear c103
                                                  have H' := Aside0.mk H
                                                  clear H
                                                  have p102 : 0 ≤ (x21_5 : Int) := of_decide_eq_true (by first | (with_reducible assumption) | assumption)
                                                  have q102 : x21_5 < (a0.size : Int) := of_decide_eq_true (by first | (with_reducible assumption) | assumption)
                                                  have hx102 := bt_at a0 x21_5
                                                  replace p102 := eq_true p102
                                                  replace q102 := eq_true q102
                                                  have hnb105 := NB311_328.out
                                                  have hnc105 := NB328_311.out
                                                  have hcz106_0 : wr.cell? ⟨gb311, 0, none⟩ = some (.string t303) := (blk_cell BK311.out 0).trans rfl
                                                  have hcz106_1 : wr.cell? ⟨gb311, 1, none⟩ = some (.slice Ao27 t304.length co27) := (blk_cell BK311.out 1).trans rfl
                                                  have hcz106_2 : wr.cell? ⟨gb311, 2, none⟩ = some (.slice Ao28 t307.length co28) := (blk_cell BK311.out 2).trans rfl
                                                  have hfz106_0 := blk_frozen BK311.out 0
                                                  have hfz106_1 := blk_frozen BK311.out 1
                                                  have hfz106_2 := blk_frozen BK311.out 2
                                                  have p104 : 0 ≤ (x21_5 : Int) := of_decide_eq_true (by first | (with_reducible assumption) | assumption)
                                                  have q104 : x21_5 < (t303.size : Int) := of_decide_eq_true (by first | (with_reducible assumption) | assumption)
                                                  have hx104 := bt_at t303 x21_5
                                                  replace p104 := eq_true p104
                                                  replace q104 := eq_true q104
                                                  as_aux_lemma =>
                                                    go_wp2
                                                    repeat (go_quiet (fail); try go_wp2)
                                                    go_meet
                                                    case rel => exact ⟨_, (((bt a0 x21_5) != (bt t303 x21_5))), (by first | rfl | (simp; done) | (simp [*]; done)), H', ⟨by have := HJ21.out; have := HJ29.out; have := HJ39.out; have := HJ51.out; have := HK5.out; have := HK6.out; first | omega | exact Nat.le_refl _⟩, ⟨by (with_reducible repeat (first | apply Kd.R_alloc | apply Kd.R_drewN | apply Kd.R_drew)); exact HO_312001.out⟩, ⟨by (with_reducible repeat (first | apply Kd.R_alloc | apply Kd.R_drewN | apply Kd.R_drew)); exact HO_312002.out⟩, ⟨by (with_reducible repeat (first | apply Kd.R_alloc | apply Kd.R_drewN | apply Kd.R_drew)); exact HO_329001.out⟩, ⟨by (with_reducible repeat (first | apply Kd.R_alloc | apply Kd.R_drewN | apply Kd.R_drew)); exact HO_329002.out⟩, ⟨by (with_reducible repeat (first | refine blk_drewN ?_ _ | refine blk_drew ?_ | refine blk_alloc ?_ _)); exact BK311.out⟩, ⟨by (with_reducible repeat (first | refine blk_drewN ?_ _ | refine blk_drew ?_ | refine blk_alloc ?_ _)); exact BK328.out⟩, ⟨by repeat (first | (with_reducible first | exact HB.out | apply below_alloc | apply pw_below_drewN | apply below_drew1 | refine below_set ?_ GE311.out | refine below_set ?_ GE328.out) | exact HB.out)⟩⟩
                                                · rw [if_neg c103] at H
                                                  exact absurd H (by simp)
                                              · rw [if_neg c101] at H
                                                exact absurd H (by simp)
                                            · rw [if_neg c100] at H
                                              exact absurd H (by simp)
                                        case rest => as_aux_lemma =>
                                          clear HC98
                                          (try clear c1); (try clear p1); (try clear q1); (try clear hx1); (try clear c2); (try clear p2); (try clear c3); (try clear p3); (try clear q3); (try clear hx3); (try clear c4); (try clear c6); (try clear p6); (try clear c7); (try clear c8); (try clear c8b0); (try clear c8b1); (try clear c9); (try clear c9b0); (try clear c9b1); (try clear c10); (try clear p10); (try clear q10); (try clear hx10); (try clear c29); (try clear c29b0); (try clear c29b1); (try clear c31); (try clear c32); (try clear c32b0); (try clear p32); (try clear q32); (try clear hx32); (try clear c33); (try clear c33b0); (try clear c33b1); (try clear c33b2); (try clear c35); (try clear c35b0); (try clear c35b1); (try clear c36); (try clear c36b0); (try clear c36b1); (try clear c42); (try clear c42b0); (try clear c42b1); (try clear c43); (try clear c44); (try clear c44b0); (try clear c44b1); (try clear c45); (try clear c46); (try clear c46b0); (try clear c46b1); (try clear c60); (try clear c64); (try clear c64b0); (try clear c64b1); (try clear p64); (try clear c65); (try clear c65b0); (try clear c65b1); (try clear c66); (try clear c66b0); (try clear c66b1); (try clear c67); (try clear c67b0); (try clear c67b1); (try clear c68); (try clear c69); (try clear c70); (try clear c70b0); (try clear c70b1); (try clear c71); (try clear c71b0); (try clear c71b1); (try clear c71b2); (try clear c72); (try clear c72b0); (try clear c72b1); (try clear c72b2); (try clear c73); (try clear c73b0); (try clear c74); (try clear c77); (try clear c78); (try clear c81); (try clear c84); (try clear c87); (try clear c90); (try clear c93); (try clear c94); (try clear c94b0); (try clear c95); (try clear c95b0); (try clear c96); (try clear c97); (try clear c97b0); (try clear c99); (try clear c100); (try clear c100b0); (try clear c101); (try clear c101b0); (try clear p102); (try clear q102); (try clear hx102); (try clear c103); (try clear c103b0); (try clear p104); (try clear q104); (try clear hx104); (try clear c105); (try clear hcz106_0); (try clear hcz106_1); (try clear hcz106_2); (try clear hcz13_0); (try clear hcz13_1); (try clear hcz13_2); (try clear hcz19_0); (try clear hcz19_1); (try clear hcz19_2); (try clear hcz26_0); (try clear hcz26_1); (try clear hcz26_2); (try clear hcz47_0); (try clear hcz47_1); (try clear hcz47_2); (try clear hcz48_0); (try clear hcz48_1); (try clear hcz48_2); (try clear hcz53_0); (try clear hcz53_1); (try clear hcz53_2); (try clear hcz55_0); (try clear hcz55_1); (try clear hcz55_2); (try clear hcz57_0); (try clear hcz57_1); (try clear hcz57_2); (try clear hcz61_0); (try clear hcz61_1); (try clear hcz61_2); (try clear hcz75_0); (try clear hcz75_1); (try clear hcz75_2); (try clear hcz76_0); (try clear hcz76_1); (try clear hcz76_2); (try clear hcz79_0); (try clear hcz79_1); (try clear hcz79_2); (try clear hcz80_0); (try clear hcz80_1); (try clear hcz80_2); (try clear hcz82_0); (try clear hcz82_1); (try clear hcz82_2); (try clear hcz83_0); (try clear hcz83_1); (try clear hcz83_2); (try clear hcz85_0); (try clear hcz85_1); (try clear hcz85_2); (try clear hcz86_0); (try clear hcz86_1); (try clear hcz86_2); (try clear hcz88_0); (try clear hcz88_1); (try clear hcz88_2); (try clear hcz89_0); (try clear hcz89_1); (try clear hcz89_2); (try clear hcz91_0); (try clear hcz91_1); (try clear hcz91_2); (try clear hcz92_0); (try clear hcz92_1); (try clear hcz92_2); (try clear hfz106_0); (try clear hfz106_1); (try clear hfz106_2); (try clear hfz13_0); (try clear hfz13_1); (try clear hfz13_2); (try clear hfz19_0); (try clear hfz19_1); (try clear hfz19_2); (try clear hfz26_0); (try clear hfz26_1); (try clear hfz26_2); (try clear hfz47_0); (try clear hfz47_1); (try clear hfz47_2); (try clear hfz48_0); (try clear hfz48_1); (try clear hfz48_2); (try clear hfz53_0); (try clear hfz53_1); (try clear hfz53_2); (try clear hfz55_0); (try clear hfz55_1); (try clear hfz55_2); (try clear hfz57_0); (try clear hfz57_1); (try clear hfz57_2); (try clear hfz61_0); (try clear hfz61_1); (try clear hfz61_2); (try clear hfz75_0); (try clear hfz75_1); (try clear hfz75_2); (try clear hfz76_0); (try clear hfz76_1); (try clear hfz76_2); (try clear hfz79_0); (try clear hfz79_1); (try clear hfz79_2); (try clear hfz80_0); (try clear hfz80_1); (try clear hfz80_2); (try clear hfz82_0); (try clear hfz82_1); (try clear hfz82_2); (try clear hfz83_0); (try clear hfz83_1); (try clear hfz83_2); (try clear hfz85_0); (try clear hfz85_1); (try clear hfz85_2); (try clear hfz86_0); (try clear hfz86_1); (try clear hfz86_2); (try clear hfz88_0); (try clear hfz88_1); (try clear hfz88_2); (try clear hfz89_0); (try clear hfz89_1); (try clear hfz89_2); (try clear hfz91_0); (try clear hfz91_1); (try clear hfz91_2); (try clear hfz92_0); (try clear hfz92_1); (try clear hfz92_2); (try clear hx329_0); (try clear p102); (try clear p104); (try clear p2); (try clear p329); (try clear p6); (try clear p64); (try clear q102); (try clear q104); (try clear q329)
                                          obtain ⟨kq, x231_97, rfl, HA, HJ97, HO_312001, HO_312002, HO_329001, HO_329002, BK311, BK328, HB⟩ := hcut
                                          cases kq with
                                          | zero => exact absurd HA.out (by simp [foghornlaw20_MendNever.j7])
                                          | succ kj97 =>
                                            have H := HA.out
                                            clear HA
                                            simp only [foghornlaw20_MendNever.j7] at H
                                            by_cases c107 : x231_97 = true
                                            · subst c107
                                              have H1 : (if x20_5 ≥ (t304.length : Int) then (some false) else (if 0 ≤ x20_5 then (if x20_5 < (t304.length : Int) then (if (rd t304 x20_5) = x21_5 then (foghornlaw20_MendNever.l1 kj97 a0 l2 (wrap64 (x20_5 + 1)) (wrap64 (x21_5 + 1)) t303 t304 t307) else (some false)) else (none)) else (none))) = some r := by rw [if_pos rfl] at H; exact H
                                              clear H
                                              have H := H1
                                              clear H1
                                              by_cases c108 : x20_5 ≥ (t304.length : Int)
                                              · rw [if_pos c108] at H
                                                have c108b0 : decide ((t304.length : Int) ≤ x20_5) = true := decide_eq_true c108
                                                clear c108
                                                obtain rfl := Option.some.inj H
                                                have hnb109 := NB311_328.out
                                                have hnc109 := NB328_311.out
                                                have hcz110_0 : wc.cell? ⟨gb311, 0, none⟩ = some (.string t303) := (blk_cell BK311.out 0).trans rfl
                                                have hcz110_1 : wc.cell? ⟨gb311, 1, none⟩ = some (.slice Ao27 t304.length co27) := (blk_cell BK311.out 1).trans rfl
                                                have hcz110_2 : wc.cell? ⟨gb311, 2, none⟩ = some (.slice Ao28 t307.length co28) := (blk_cell BK311.out 2).trans rfl
                                                have hfz110_0 := blk_frozen BK311.out 0
                                                have hfz110_1 := blk_frozen BK311.out 1
                                                have hfz110_2 := blk_frozen BK311.out 2
                                                go_wp2
                                                repeat (go_quiet (fail); try go_wp2)
                                                go_ret
                                                exact ⟨by first | rfl | (simp [errW_none, errW_some] <;> rfl) | (simp [*, errW_none, errW_some] <;> rfl), by repeat (first | (with_reducible first | exact HB.out | apply below_alloc | apply pw_below_drewN | apply below_drew1 | refine below_set ?_ GE311.out | refine below_set ?_ GE328.out) | exact HB.out)⟩
                                              · rw [if_neg c108] at H
                                                have c108b0 : decide ((t304.length : Int) ≤ x20_5) = false := decide_eq_false c108
                                                clear c108
                                                by_cases c111 : 0 ≤ x20_5
                                                · rw [if_pos c111] at H
                                                  have c111b0 : decide (0 ≤ x20_5) = true := decide_eq_true c111
                                                  clear c111
                                                  by_cases c112 : x20_5 < (t304.length : Int)
                                                  · rw [if_pos c112] at H
                                                    have c112b0 : decide (x20_5 < (t304.length : Int)) = true := decide_eq_true c112
                                                    clear c112
                                                    by_cases c113 : (rd t304 x20_5) = x21_5
                                                    · rw [if_pos c113] at H
                                                      have c113b0 : ((rd t304 x20_5) == x21_5) = true := beq_iff_eq.mpr c113
                                                      have c113b1 : ((rd t304 x20_5) != x21_5) = false := bne_eq_false_iff_eq.mpr c113
                                                      clear c113
                                                      have H' := Aside0.mk H
                                                      clear H
                                                      have hnb114 := NB311_328.out
                                                      have hnc114 := NB328_311.out
                                                      have hcz115_0 : wc.cell? ⟨gb311, 0, none⟩ = some (.string t303) := (blk_cell BK311.out 0).trans rfl
                                                      have hcz115_1 : wc.cell? ⟨gb311, 1, none⟩ = some (.slice Ao27 t304.length co27) := (blk_cell BK311.out 1).trans rfl
                                                      have hcz115_2 : wc.cell? ⟨gb311, 2, none⟩ = some (.slice Ao28 t307.length co28) := (blk_cell BK311.out 2).trans rfl
                                                      have hfz115_0 := blk_frozen BK311.out 0
                                                      have hfz115_1 := blk_frozen BK311.out 1
                                                      have hfz115_2 := blk_frozen BK311.out 2
                                                      have p330 : 0 ≤ (x20_5 : Int) := of_decide_eq_true (by first | (with_reducible assumption) | assumption)
                                                      have q330 : x20_5 < (t304.length : Int) := of_decide_eq_true (by first | (with_reducible assumption) | assumption)
                                                      obtain ⟨ad330, e330, hx330_0⟩ := Kd.at_int (Kd.R_reads' HO_312001.out).2.2 x20_5 p330 q330
                                                      cases e330
                                                      replace p330 := eq_true p330
                                                      replace q330 := eq_true q330
                                                      as_aux_lemma =>
                                                        go_wp2
                                                        repeat (go_quiet (fail); try go_wp2)
                                                        refine Handed.intro kj97 ?measure ?_
                                                        rotate_left
                                                        go_step
                                                        (try simp only [add_off0])
                                                        (repeat apply Exists.intro)
                                                        refine ⟨?rel, rfl⟩
                                                        case measure => have := HJ21.out; have := HJ29.out; have := HJ39.out; have := HJ51.out; have := HK5.out; have := HK6.out; have := HJ97.out; omega
                                                        case rel => exact ⟨(wrap64 (x20_5 + 1)), (wrap64 (x21_5 + 1)), (by first | rfl | (simp; done) | (simp [*]; done)), (by first | rfl | (simp; done) | (simp [*]; done)), H', ⟨by have := HJ21.out; have := HJ29.out; have := HJ39.out; have := HJ51.out; have := HK5.out; have := HK6.out; have := HJ97.out; omega⟩, ⟨by (with_reducible repeat (first | apply Kd.R_alloc | apply Kd.R_drewN | apply Kd.R_drew)); exact HO_312001.out⟩, ⟨by (with_reducible repeat (first | apply Kd.R_alloc | apply Kd.R_drewN | apply Kd.R_drew)); exact HO_312002.out⟩, ⟨by (with_reducible repeat (first | apply Kd.R_alloc | apply Kd.R_drewN | apply Kd.R_drew)); exact HO_329001.out⟩, ⟨by (with_reducible repeat (first | apply Kd.R_alloc | apply Kd.R_drewN | apply Kd.R_drew)); exact HO_329002.out⟩, ⟨by (with_reducible repeat (first | refine blk_drewN ?_ _ | refine blk_drew ?_ | refine blk_alloc ?_ _)); exact BK311.out⟩, ⟨by (with_reducible repeat (first | refine blk_drewN ?_ _ | refine blk_drew ?_ | refine blk_alloc ?_ _)); exact BK328.out⟩, ⟨by repeat (first | (with_reducible first | exact HB.out | apply below_alloc | apply pw_below_drewN | apply below_drew1 | refine below_set ?_ GE311.out | refine below_set ?_ GE328.out) | exact HB.out)⟩⟩
                                                    · rw [if_neg c113] at H
                                                      have c113b0 : ((rd t304 x20_5) == x21_5) = false := beq_eq_false_iff_ne.mpr c113
                                                      have c113b1 : ((rd t304 x20_5) != x21_5) = true := bne_iff_ne.mpr c113
                                                      obtain rfl := Option.some.inj H
                                                      have hnb116 := NB311_328.out
                                                      have hnc116 := NB328_311.out
                                                      have hcz117_0 : wc.cell? ⟨gb311, 0, none⟩ = some (.string t303) := (blk_cell BK311.out 0).trans rfl
                                                      have hcz117_1 : wc.cell? ⟨gb311, 1, none⟩ = some (.slice Ao27 t304.length co27) := (blk_cell BK311.out 1).trans rfl
                                                      have hcz117_2 : wc.cell? ⟨gb311, 2, none⟩ = some (.slice Ao28 t307.length co28) := (blk_cell BK311.out 2).trans rfl
                                                      have hfz117_0 := blk_frozen BK311.out 0
                                                      have hfz117_1 := blk_frozen BK311.out 1
                                                      have hfz117_2 := blk_frozen BK311.out 2
                                                      have p330 : 0 ≤ (x20_5 : Int) := of_decide_eq_true (by first | (with_reducible assumption) | assumption)
                                                      have q330 : x20_5 < (t304.length : Int) := of_decide_eq_true (by first | (with_reducible assumption) | assumption)
                                                      obtain ⟨ad330, e330, hx330_0⟩ := Kd.at_int (Kd.R_reads' HO_312001.out).2.2 x20_5 p330 q330
                                                      cases e330
                                                      replace p330 := eq_true p330
                                                      replace q330 := eq_true q330
                                                      go_wp2
                                                      repeat (go_quiet (fail); try go_wp2)
                                                      go_ret
                                                      exact ⟨by first | rfl | (simp [errW_none, errW_some] <;> rfl) | (simp [*, errW_none, errW_some] <;> rfl), by repeat (first | (with_reducible first | exact HB.out | apply below_alloc | apply pw_below_drewN | apply below_drew1 | refine below_set ?_ GE311.out | refine below_set ?_ GE328.out) | exact HB.out)⟩
                                                  · rw [if_neg c112] at H
                                                    exact absurd H (by simp)
                                                · rw [if_neg c111] at H
                                                  exact absurd H (by simp)
                                            · replace c107 := Bool.eq_false_iff.mpr c107
                                              subst c107
                                              have H1 : (foghornlaw20_MendNever.l1 kj97 a0 l2 x20_5 (wrap64 (x21_5 + 1)) t303 t304 t307) = some r := by rw [if_neg (show ¬ (false = true) by decide)] at H; exact H
                                              clear H
                                              have H := H1
                                              clear H1
                                              have H' := Aside0.mk H
                                              clear H
                                              as_aux_lemma =>
                                                go_wp2
                                                repeat (go_quiet (fail); try go_wp2)
                                                refine Handed.intro kj97 ?measure ?_
                                                rotate_left
                                                go_step
                                                (try simp only [add_off0])
                                                (repeat apply Exists.intro)
                                                refine ⟨?rel, rfl⟩
                                                case measure => have := HJ21.out; have := HJ29.out; have := HJ39.out; have := HJ51.out; have := HK5.out; have := HK6.out; have := HJ97.out; omega
                                                case rel => exact ⟨(x20_5), (wrap64 (x21_5 + 1)), (by first | rfl | (simp; done) | (simp [*]; done)), (by first | rfl | (simp; done) | (simp [*]; done)), H', ⟨by have := HJ21.out; have := HJ29.out; have := HJ39.out; have := HJ51.out; have := HK5.out; have := HK6.out; have := HJ97.out; omega⟩, ⟨by (with_reducible repeat (first | apply Kd.R_alloc | apply Kd.R_drewN | apply Kd.R_drew)); exact HO_312001.out⟩, ⟨by (with_reducible repeat (first | apply Kd.R_alloc | apply Kd.R_drewN | apply Kd.R_drew)); exact HO_312002.out⟩, ⟨by (with_reducible repeat (first | apply Kd.R_alloc | apply Kd.R_drewN | apply Kd.R_drew)); exact HO_329001.out⟩, ⟨by (with_reducible repeat (first | apply Kd.R_alloc | apply Kd.R_drewN | apply Kd.R_drew)); exact HO_329002.out⟩, ⟨by (with_reducible repeat (first | refine blk_drewN ?_ _ | refine blk_drew ?_ | refine blk_alloc ?_ _)); exact BK311.out⟩, ⟨by (with_reducible repeat (first | refine blk_drewN ?_ _ | refine blk_drew ?_ | refine blk_alloc ?_ _)); exact BK328.out⟩, ⟨by repeat (first | (with_reducible first | exact HB.out | apply below_alloc | apply pw_below_drewN | apply below_drew1 | refine below_set ?_ GE311.out | refine below_set ?_ GE328.out) | exact HB.out)⟩⟩
                                · rw [if_neg c94] at H
                                  have c94b0 : decide (x21_5 < (a0.size : Int)) = false := decide_eq_false c94
                                  clear c94
                                  obtain rfl := Option.some.inj H
                                  have hnb118 := NB311_328.out
                                  have hnc118 := NB328_311.out
                                  have hcz119_0 : wr.cell? ⟨gb311, 0, none⟩ = some (.string t303) := (blk_cell BK311.out 0).trans rfl
                                  have hcz119_1 : wr.cell? ⟨gb311, 1, none⟩ = some (.slice Ao27 t304.length co27) := (blk_cell BK311.out 1).trans rfl
                                  have hcz119_2 : wr.cell? ⟨gb311, 2, none⟩ = some (.slice Ao28 t307.length co28) := (blk_cell BK311.out 2).trans rfl
                                  have hfz119_0 := blk_frozen BK311.out 0
                                  have hfz119_1 := blk_frozen BK311.out 1
                                  have hfz119_2 := blk_frozen BK311.out 2
                                  go_wp2
                                  repeat (go_quiet (fail); try go_wp2)
                                  go_ret
                                  exact ⟨by first | rfl | (simp [errW_none, errW_some] <;> rfl) | (simp [*, errW_none, errW_some] <;> rfl), by repeat (first | (with_reducible first | exact HB.out | apply below_alloc | apply pw_below_drewN | apply below_drew1 | refine below_set ?_ GE311.out | refine below_set ?_ GE328.out) | exact HB.out)⟩
  · replace c6 := Bool.eq_false_iff.mpr c6
    subst c6
    have H1 : (some false) = some r := by rw [if_neg (show ¬ (false = true) by decide)] at H; exact H
    clear H
    have H := H1
    clear H1
    obtain rfl := Option.some.inj H
    go_enter Try.func4, Try.ntmps4
    go_wp2_with (first | (go_at_call 9; (with_reducible refine (foghornlaw20_awake.calls k  false _ A5.out).mono ?_); rintro e w120 ⟨rfl, hb⟩; have n0_ := Aside0.mk (below_step (by repeat (first | (with_reducible first | exact HB.out | apply below_alloc | apply pw_below_drewN | apply below_drew1) | exact HB.out)) hb); clear HB; have HB := n0_; clear n0_; (try clear hb); (try clear hb2); (try clear hk); (try clear hi)))
    repeat (go_quiet (first | (go_at_call 9; (with_reducible refine (foghornlaw20_awake.calls k  false _ A5.out).mono ?_); rintro e w120 ⟨rfl, hb⟩; have n0_ := Aside0.mk (below_step (by repeat (first | (with_reducible first | exact HB.out | apply below_alloc | apply pw_below_drewN | apply below_drew1) | exact HB.out)) hb); clear HB; have HB := n0_; clear n0_; (try clear hb); (try clear hb2); (try clear hk); (try clear hi))); try go_wp2_with (first | (go_at_call 9; (with_reducible refine (foghornlaw20_awake.calls k  false _ A5.out).mono ?_); rintro e w120 ⟨rfl, hb⟩; have n0_ := Aside0.mk (below_step (by repeat (first | (with_reducible first | exact HB.out | apply below_alloc | apply pw_below_drewN | apply below_drew1) | exact HB.out)) hb); clear HB; have HB := n0_; clear n0_; (try clear hb); (try clear hb2); (try clear hk); (try clear hi))))
    go_ret
    exact ⟨by first | rfl | (simp [errW_none, errW_some] <;> rfl) | (simp [*, errW_none, errW_some] <;> rfl), by repeat (first | (with_reducible first | exact HB.out | apply below_alloc | apply pw_below_drewN | apply below_drew1) | exact HB.out)⟩

/-- THE ONE PURE STATEMENT of foghornlaw20_MendNever: yours. -/
def foghornlaw20_MendNever.Pure : Prop := ∀ (a0 : ByteArray) (a1 : Int) (l2 : List Int) (a3 : ByteArray), a0.size ≤ 140737488351232 → (Lit.int .i64 a1).wf = true → l2.length ≤ maxLen → l2.length * 8 ≤ 140737488351232 → (∀ x ∈ l2, (Lit.int .i64 x).wf = true) → a3.size ≤ 140737488351232 → ∃ k, foghornlaw20_MendNever.f k a0 a1 l2 a3 = some true
theorem foghornlaw20_MendNever.walk (P : foghornlaw20_MendNever.Pure) (a0 : ByteArray) (a1 : Int) (a2 : Option Addr) (len2 cap2 : Nat) (z2 : List Int) (a3 : ByteArray) (w : World) (w0 : a0.size ≤ 140737488351232) (w1 : (Lit.int .i64 a1).wf = true) (w2 : (a2 = none ∧ len2 = 0 ∧ cap2 = 0 ∧ z2 = []) ∨ ∃ x, a2 = some x ∧ len2 ≤ cap2 ∧ cap2 ≤ maxLen ∧ z2.length = cap2 ∧ (∀ i, i < z2.length → w.cell? (x.add i) = some (.int .i64 (z2.getD i 0))) ∧ ∀ n ∈ z2, (Lit.int .i64 n).wf = true) (y2 : len2 * 8 ≤ 140737488351232) (w3 : a3.size ≤ 140737488351232) :
    Calls Try.prog 4 #[.string a0, .int .i64 a1, .slice a2 len2 cap2, .string a3] w fun e w' => e = .returned (.bool true) ∧ Below w.heap.size w w' := by
  obtain ⟨l2, rfl, hr2, hm2, hw2, hc2⟩ := ReadsInt.ofRowC w2
  obtain ⟨k, h⟩ := P a0 a1 l2 a3 w0 w1 hm2 y2 hw2 w3
  refine (foghornlaw20_MendNever.calls k a0 a1 _ _ l2 a3 true w (Kd.C_of_reads (d := (0 : Int)) (h1 := fun _ => rfl) hr2) hc2 h).mono ?_
  rintro e w' ⟨rfl, hd⟩
  exact ⟨rfl, hd⟩

end Go.Proofs.Ytdgeapgfpikcmaa.Q
