/- CurlParses answers true for every text: of one of at most 400 bytes curl.Parse tells what the document's answer tells; of a longer one only the law's own wakes are asked (no conditions but the row's size bound). -/
import Derived.Test.YtbjfcnhaedhbaaaRefCurl
import Derived.Test.YtbjfcnhaedhbaaaZA20
namespace Go.Proofs.Ytbjfcnhaedhbaaa.Pure
open Go.RowKit Go.Proofs.Ytbjfcnhaedhbaaa.ZA Go.Proofs.YtbjfcnhaedhbaaaW.PrintWords Go.Proofs.YtbjfcnhaedhbaaaW.PrintLast Go.Proofs.Ytbjfcnhaedhbaaa.L Go.Proofs.Ytbjfcnhaedhbaaa.Py

theorem awake22 (k : Nat) (hk : 100 ≤ k) : shibbolethlaw22_awake.f k = some true := at_rounds (g := fun k => shibbolethlaw22_awake.f k) shibbolethlaw22_awake.mono hk (by kernel_rfl)
theorem CurlParses : shibbolethlaw22_CurlParses.Pure := by
  intro a h
  obtain ⟨w, rfl⟩ := S_surj a
  have hw : Str.Sm w := h
  refine ⟨4 * w.length + 200, ?_⟩
  unfold shibbolethlaw22_CurlParses.f
  rw [awake22 _ (by omega), Cu.Parse_ev w hw _ (by omega), RefCu.Parse_ev w hw _ (by omega)]
  simp
end Go.Proofs.Ytbjfcnhaedhbaaa.Pure
