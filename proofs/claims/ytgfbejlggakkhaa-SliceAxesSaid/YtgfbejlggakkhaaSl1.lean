/-
  The points of all sets: the program's rows and the document's are the same.
-/
import Derived.Test.YtgfbejlggakkhaaQx11
import Derived.Test.YtgfbejlggakkhaaQx7
import Derived.Test.YtgfbejlggakkhaaQx4
import Derived.Test.YtgfbejlggakkhaaQx5
import Derived.KernelRfl
namespace Go.Proofs.Ytgfbejlggakkhaa.Hand
open Go.RowKit Go.Proofs.Ytgfbejlggakkhaa.Q Go.Proofs.YtgfbejlggakkhaaW.PrintWords Go.Proofs.YtgfbejlggakkhaaW.PrintLast Go.Proofs.YtgfbejlggakkhaaW.PrintMore
set_option linter.unusedVariables false

def listOf (size : Int) : List (Nat × Nat) := match allF size with | some (l, _) => l | none => []
/-- are both parts numbers? -/
def num1 (x : Nat) : Bool := match Ieee.double.read x with | .number .. => true | _ => false
def num2 (p : Nat × Nat) : Bool := num1 p.1 && num1 p.2
theorem num_4 : (listOf 4).all num2 = true := by kernel_rfl
theorem num_16 : (listOf 16).all num2 = true := by kernel_rfl
theorem num_32 : (listOf 32).all num2 = true := by kernel_rfl
theorem num_64 : (listOf 64).all num2 = true := by kernel_rfl
theorem num_128 : (listOf 128).all num2 = true := by kernel_rfl
theorem num_256 : (listOf 256).all num2 = true := by kernel_rfl
theorem all_4 : points_All.f 4 = some (listOf 4, 0) ∧ foghornref04_All.f 300 4 = some (listOf 4, 0) := ⟨by kernel_rfl, by kernel_rfl⟩
theorem all_16 : points_All.f 16 = some (listOf 16, 0) ∧ foghornref04_All.f 300 16 = some (listOf 16, 0) := ⟨by kernel_rfl, by kernel_rfl⟩
theorem all_32 : points_All.f 32 = some (listOf 32, 0) ∧ foghornref04_All.f 300 32 = some (listOf 32, 0) := ⟨by kernel_rfl, by kernel_rfl⟩
theorem all_64 : points_All.f 64 = some (listOf 64, 0) ∧ foghornref04_All.f 300 64 = some (listOf 64, 0) := ⟨by kernel_rfl, by kernel_rfl⟩
theorem all_128 : points_All.f 128 = some (listOf 128, 0) ∧ foghornref04_All.f 1500 128 = some (listOf 128, 0) := ⟨by kernel_rfl, by kernel_rfl⟩
theorem all_256 : points_All.f 256 = some (listOf 256, 0) ∧ foghornref04_All.f 2000 256 = some (listOf 256, 0) := ⟨by kernel_rfl, by kernel_rfl⟩
end Go.Proofs.Ytgfbejlggakkhaa.Hand
