/- RfcKnown answers true: the chapter's examples of layer 19, by reckoning the printed functions (closed: no conditions). -/
import Derived.Test.YtiihgddpejmehaaZA21
namespace Go.Proofs.Ytiihgddpejmehaa.Pure
open Go.RowKit Go.Proofs.Ytiihgddpejmehaa.ZA Go.Proofs.YtiihgddpejmehaaW.PrintWords Go.Proofs.YtiihgddpejmehaaW.PrintLast

theorem RfcKnown : shibbolethlaw19_RfcKnown.Pure := ⟨100, by kernel_rfl⟩

end Go.Proofs.Ytiihgddpejmehaa.Pure
