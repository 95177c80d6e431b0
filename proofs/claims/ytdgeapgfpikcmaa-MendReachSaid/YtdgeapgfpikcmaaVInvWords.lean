/- The words of the kit's print, for rows whose block may bear a mark behind its cells, too: made by this place's mkwords.py. -/
import Derived.Test.YtdgeapgfpikcmaaVInv
import Derived.Test.YtdgeapgfpikcmaaVFootNe
namespace Go.Proofs.YtdgeapgfpikcmaaV.PrintWords
open Go.RowKit
end Go.Proofs.YtdgeapgfpikcmaaV.PrintWords
namespace Go.Proofs.YtdgeapgfpikcmaaV.PrintLast
section
variable {ops : Array Oper} {a : Act} {o og : Oper} {g : Nat} {t : Tmp} {u : Bool}
end
end Go.Proofs.YtdgeapgfpikcmaaV.PrintLast
