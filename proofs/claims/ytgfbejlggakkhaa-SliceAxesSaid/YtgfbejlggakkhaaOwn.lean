/-
  Words of this place: a make with a capacity of its own.
-/
import Derived.Test.YtgfbejlggakkhaaWWords
import Derived.Test.YtgfbejlggakkhaaWMore
import Derived.WalkMore
namespace Go.Proofs.YtgfbejlggakkhaaW.PrintWords
open Go.RowKit

namespace Kd
section
variable {P : Program} {ops : Array Oper} {rest : List Oper} {o : Oper} {a : Act} {Q : Exit → Act → World → Prop}
variable {α : Type}
end
end Kd
/-- an address within a block, as the walk spells it -/
theorem add_off0 (g n : Nat) : ({ block := g, off := 0 } : Addr).add n = { block := g, off := n } := by unfold Addr.add; split <;> simp_all
end Go.Proofs.YtgfbejlggakkhaaW.PrintWords
