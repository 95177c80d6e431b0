/- The words of the kit's print, for rows whose block may bear a mark behind its cells, too: made by this place's mkwords.py. -/
import Derived.Test.YtdgeapgfpikcmaaVTab
/-! ### 56. Four, five, six operations that may come up next, in any order -/
namespace Go.Proofs.YtdgeapgfpikcmaaV.PrintLast
section
variable {P : Program} {ops : Array Oper} {Q : Exit → Act → World → Prop} {md : Region.Mode} {S : World → Prop} {ds : List Nat} {T : Bool × List (List Nat × List Nat)}
end
end Go.Proofs.YtdgeapgfpikcmaaV.PrintLast
