/- PyurlParses answers true for every text: of one of at most 400 bytes pyurl.Parse tells what the document's answer tells; of a longer one only the law's own wakes are asked (no conditions but the row's size bound). -/
import Derived.Test.YtbjfcnhaedhbaaaRefPy
import Derived.Test.YtbjfcnhaedhbaaaZA10
namespace Go.Proofs.Ytbjfcnhaedhbaaa.Pure
open Go.RowKit Go.Proofs.Ytbjfcnhaedhbaaa.ZA Go.Proofs.YtbjfcnhaedhbaaaW.PrintWords Go.Proofs.YtbjfcnhaedhbaaaW.PrintLast Go.Proofs.Ytbjfcnhaedhbaaa.L Go.Proofs.Ytbjfcnhaedhbaaa.Py

theorem awake21 (k : Nat) (hk : 100 ≤ k) : shibbolethlaw21_awake.f k = some true := at_rounds (g := fun k => shibbolethlaw21_awake.f k) shibbolethlaw21_awake.mono hk (by kernel_rfl)
theorem PyurlParses : shibbolethlaw21_PyurlParses.Pure := by
  intro a h
  obtain ⟨w, rfl⟩ := S_surj a
  have hw : Str.Sm w := h
  refine ⟨3 * w.length + 200, ?_⟩
  unfold shibbolethlaw21_PyurlParses.f
  rw [awake21 _ (by omega), Py.Parse_ev w hw _ (by omega), RefPy.Parse_ev w hw _ (by omega)]
  simp
end Go.Proofs.Ytbjfcnhaedhbaaa.Pure
