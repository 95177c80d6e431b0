/- The words of the kit's print, for rows whose block may bear a mark behind its cells, too: made by this place's mkwords.py. -/
import Derived.Test.YtdgeapgfpikcmaaVWords
/-! ### 58. A guarded operation whose guard is known to want it: the same goal without the guard -/
namespace Go.Proofs.YtdgeapgfpikcmaaV.PrintWords
open Go.RowKit
section
variable {P : Program} {ops : Array Oper} {rest : List Oper} {o : Oper} {a : Act} {Q : Exit → Act → World → Prop} {W : World}
end
end Go.Proofs.YtdgeapgfpikcmaaV.PrintWords
