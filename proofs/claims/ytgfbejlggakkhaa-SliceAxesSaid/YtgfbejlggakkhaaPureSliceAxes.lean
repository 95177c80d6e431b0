import Derived.Test.YtgfbejlggakkhaaSl3
namespace Go.Proofs.Ytgfbejlggakkhaa.Pure
open Go.RowKit Go.Proofs.Ytgfbejlggakkhaa.Q Go.Proofs.YtgfbejlggakkhaaW.PrintWords Go.Proofs.YtgfbejlggakkhaaW.PrintLast

theorem SliceAxes : foghornlaw05_SliceAxes.Pure := fun a0 a1 a2 a3 a4 h0 h1 _ _ _ => Hand.axes_pure a0 a1 a2 a3 a4 h0 h1
end Go.Proofs.Ytgfbejlggakkhaa.Pure
