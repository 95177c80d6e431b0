import Derived.Test.YtgfbejlggakkhaaQx19
import Derived.KernelRfl
namespace Go.Proofs.Ytgfbejlggakkhaa.Pure
open Go.RowKit Go.Proofs.Ytgfbejlggakkhaa.Q Go.Proofs.YtgfbejlggakkhaaW.PrintWords Go.Proofs.YtgfbejlggakkhaaW.PrintLast

/-- closed: reckoned by the kernel -/
theorem SliceNames : foghornlaw05_SliceNames.Pure := ⟨300, by kernel_rfl⟩
end Go.Proofs.Ytgfbejlggakkhaa.Pure
