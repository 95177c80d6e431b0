/- The words of the kit's print, for rows whose block may bear a mark behind its cells, too: made by this place's mkwords.py. -/
import Derived.Test.YtdgeapgfpikcmaaVWords
import Derived.Laws.StructEq
/-! ### 53. '==' of structs as_ one Bool -/
namespace Go.Proofs.YtdgeapgfpikcmaaV.PrintWords
open Go.RowKit
section
variable {P : Program} {d : Nat} {xs ys : Array Value} {f : Field} {fs : List Field} {a b : Value} {r s : Bool} {w : World}
end
end Go.Proofs.YtdgeapgfpikcmaaV.PrintWords
