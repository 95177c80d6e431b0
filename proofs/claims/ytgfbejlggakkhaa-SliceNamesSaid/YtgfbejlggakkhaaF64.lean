/-
  Doubles that hold n / 2 ^ s: what the operations give, exactly.
-/
import Derived.Laws.FloatBits
import Derived.Laws.FloatArith
namespace Go.Proofs.Ytgfbejlggakkhaa.F64
/-- kept shut, so that nobody reckons the power -/
@[irreducible] def K : Nat := 1074
open Ieee Go

theorem lp : double.leastPlace = -1074 := by decide
theorem bn : double.binade = 2 ^ 52 := rfl
theorem sw : double.signWeight = 2 ^ 63 := rfl
theorem ir : double.infRung = 2047 * 2 ^ 52 := by decide

def readOf (neg : Bool) (rung : Nat) : Datum :=
  if rung < 2 ^ 52 then .number neg rung (-1074)
  else if rung < 2047 * 2 ^ 52 then .number neg (2 ^ 52 + rung % 2 ^ 52) (-1074 + (rung / 2 ^ 52 - 1 : Nat))
  else if rung = 2047 * 2 ^ 52 then .infinity neg
  else .nan neg (rung - 2047 * 2 ^ 52)
theorem read_of (x : Nat) : double.read x = readOf (x / 2 ^ 63 % 2 == 1) (x % 2 ^ 63) := by
  unfold Format.read readOf
  simp only [sw, bn, ir, lp]
end Go.Proofs.Ytgfbejlggakkhaa.F64
