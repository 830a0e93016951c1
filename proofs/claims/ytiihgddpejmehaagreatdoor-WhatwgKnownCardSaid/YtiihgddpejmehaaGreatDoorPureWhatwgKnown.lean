/- WhatwgKnown answers true: the chapter's examples of layer 18, by reckoning the printed functions (closed: no conditions). -/
import Derived.Test.YtiihgddpejmehaaGreatDoorZA9
namespace Go.Proofs.YtiihgddpejmehaaGreatDoor.Pure
open Go.RowKit Go.Proofs.YtiihgddpejmehaaGreatDoor.ZA Go.Proofs.YtiihgddpejmehaaGreatDoorW.PrintWords Go.Proofs.YtiihgddpejmehaaGreatDoorW.PrintLast

theorem WhatwgKnown : shibbolethlaw18_WhatwgKnown.Pure := ⟨100, by kernel_rfl⟩

end Go.Proofs.YtiihgddpejmehaaGreatDoor.Pure
