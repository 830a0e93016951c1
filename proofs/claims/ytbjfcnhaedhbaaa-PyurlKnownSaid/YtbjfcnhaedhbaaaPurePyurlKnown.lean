/- PyurlKnown answers true: the chapter's examples of layer 21, by reckoning the printed functions (closed: no conditions). -/
import Derived.Test.YtbjfcnhaedhbaaaZA7
namespace Go.Proofs.Ytbjfcnhaedhbaaa.Pure
open Go.RowKit Go.Proofs.Ytbjfcnhaedhbaaa.ZA Go.Proofs.YtbjfcnhaedhbaaaW.PrintWords Go.Proofs.YtbjfcnhaedhbaaaW.PrintLast

theorem PyurlKnown : shibbolethlaw21_PyurlKnown.Pure := ⟨100, by kernel_rfl⟩

end Go.Proofs.Ytbjfcnhaedhbaaa.Pure
