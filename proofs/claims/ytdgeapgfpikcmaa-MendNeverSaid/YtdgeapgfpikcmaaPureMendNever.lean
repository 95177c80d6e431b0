import Derived.Test.YtdgeapgfpikcmaaL9
namespace Go.Proofs.Ytdgeapgfpikcmaa.Pure
open Go.RowKit Go.Proofs.Ytdgeapgfpikcmaa.Q Go.Proofs.YtdgeapgfpikcmaaV.PrintWords Go.Proofs.YtdgeapgfpikcmaaV.PrintLast

theorem MendNever : foghornlaw20_MendNever.Pure := fun a0 a1 l2 a3 _ _ _ h8 _ h3 => Hand.never_pure a0 a1 l2 a3 h8 h3
end Go.Proofs.Ytdgeapgfpikcmaa.Pure
