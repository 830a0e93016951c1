/-
  DERIVED. GIVEN WITH THE SEED: THE CARDS: each row of YtiihgddpejmehaaGreatDoorRows.lean that lists a variable, with what it lists TIED to the program's text (the seventh form; the later family's looks); each row that meets fmt, with fmt's text TOLD by the authors' own Lean function (tested against real Go, not proved from fmt's source: count such statements apart). THE CARD IS WHAT COUNTS. Prove the row's statement (the work); the ties are given (YtiihgddpejmehaaGreatDoorTie.lean); close each card by the builder's one call (the guide's Derived/Test/ToyasCard.lean, 'card_holds'). Laid BY PROGRAM, IN A SANDBOX (cutbox-door.mjs). By AI agents, Wed Nov 11 2026. No macro, syntax, notation, axiom, sorry.
-/
import Derived.Test.YtiihgddpejmehaaGreatDoorRows
import GoSem.ClaimSeven
namespace Go.Proofs.YtiihgddpejmehaaGreatDoor
namespace Rows

/-- THE TIED CARD OF 'shibbolethlaw23.AbnfRfc'. -/
def abnfRfcCard : Claim7 := { stood := { row := abnfRfcRow, standIns := [], harness := (true, "17470a5174f87d0f34de0067377e54d9ada21992e850241f37fa28b146c8ce3e"), looks := true }, kinds := [], alts := [], laidByText := true, laidKinds := [.data, .pinned], laidTests := true, laidLooks := .later }
def AbnfRfcCardSaid : Prop := Claim7.holds Tryz.pinned (.plain (OpenSpec.ofChange abnfRfcSpec)) abnfRfcCard

/-- THE TIED CARD OF 'shibbolethlaw23.AbnfParts'. -/
def abnfPartsCard : Claim7 := { stood := { row := abnfPartsRow, standIns := [], harness := (true, "17470a5174f87d0f34de0067377e54d9ada21992e850241f37fa28b146c8ce3e"), looks := true }, kinds := [], alts := [], laidByText := true, laidKinds := [.data, .pinned], laidTests := true, laidLooks := .later }
def AbnfPartsCardSaid : Prop := Claim7.holds Tryz.pinned (.plain (OpenSpec.ofChange abnfPartsSpec)) abnfPartsCard

/-- THE TIED CARD OF 'shibbolethlaw18.WhatwgKnown'. -/
def whatwgKnownCard : Claim7 := { stood := { row := whatwgKnownRow, standIns := [], harness := (true, "17470a5174f87d0f34de0067377e54d9ada21992e850241f37fa28b146c8ce3e"), looks := true }, kinds := [], alts := [], laidByText := true, laidKinds := [.data, .pinned], laidTests := true, laidLooks := .later }
def WhatwgKnownCardSaid : Prop := Claim7.holds Tryz.pinned (.plain (OpenSpec.ofChange whatwgKnownSpec)) whatwgKnownCard

/-- THE TIED CARD OF 'shibbolethlaw18.WhatwgTells'. -/
def whatwgTellsCard : Claim7 := { stood := { row := whatwgTellsRow, standIns := [], harness := (true, "17470a5174f87d0f34de0067377e54d9ada21992e850241f37fa28b146c8ce3e"), looks := true }, kinds := [], alts := [], laidByText := true, laidKinds := [.data, .pinned], laidTests := true, laidLooks := .later }
def WhatwgTellsCardSaid : Prop := Claim7.holds Tryz.pinned (.plain (OpenSpec.ofChange whatwgTellsSpec)) whatwgTellsCard

/-- THE TIED CARD OF 'shibbolethlaw18.WhatwgStrips'. -/
def whatwgStripsCard : Claim7 := { stood := { row := whatwgStripsRow, standIns := [], harness := (true, "17470a5174f87d0f34de0067377e54d9ada21992e850241f37fa28b146c8ce3e"), looks := true }, kinds := [], alts := [], laidByText := true, laidKinds := [.data, .pinned], laidTests := true, laidLooks := .later }
def WhatwgStripsCardSaid : Prop := Claim7.holds Tryz.pinned (.plain (OpenSpec.ofChange whatwgStripsSpec)) whatwgStripsCard

/-- THE TIED CARD OF 'shibbolethlaw18.WhatwgParts'. -/
def whatwgPartsCard : Claim7 := { stood := { row := whatwgPartsRow, standIns := [], harness := (true, "17470a5174f87d0f34de0067377e54d9ada21992e850241f37fa28b146c8ce3e"), looks := true }, kinds := [], alts := [], laidByText := true, laidKinds := [.data, .pinned], laidTests := true, laidLooks := .later }
def WhatwgPartsCardSaid : Prop := Claim7.holds Tryz.pinned (.plain (OpenSpec.ofChange whatwgPartsSpec)) whatwgPartsCard

/-- THE TIED CARD OF 'shibbolethlaw18.WhatwgFields'. -/
def whatwgFieldsCard : Claim7 := { stood := { row := whatwgFieldsRow, standIns := [], harness := (true, "17470a5174f87d0f34de0067377e54d9ada21992e850241f37fa28b146c8ce3e"), looks := true }, kinds := [], alts := [], laidByText := true, laidKinds := [.data, .pinned], laidTests := true, laidLooks := .later }
def WhatwgFieldsCardSaid : Prop := Claim7.holds Tryz.pinned (.plain (OpenSpec.ofChange whatwgFieldsSpec)) whatwgFieldsCard

/-- THE SECOND FORM's CARD OF 'shibbolethlaw23.AbnfRfc'. -/
def abnfRfcUptoCard : Claim7 := { stood := { row := abnfRfcUptoRow, standIns := [], harness := (true, "17470a5174f87d0f34de0067377e54d9ada21992e850241f37fa28b146c8ce3e"), looks := true }, kinds := [], alts := [], laidByText := true, laidKinds := [.data, .pinned], laidTests := true, laidLooks := .later }
def AbnfRfcUptoCardSaid : Prop := Claim7.holds Tryz.pinned (.plain (OpenSpec.upto abnfRfcSpec)) abnfRfcUptoCard

/-- THE SECOND FORM's CARD OF 'shibbolethlaw23.AbnfParts'. -/
def abnfPartsUptoCard : Claim7 := { stood := { row := abnfPartsUptoRow, standIns := [], harness := (true, "17470a5174f87d0f34de0067377e54d9ada21992e850241f37fa28b146c8ce3e"), looks := true }, kinds := [], alts := [], laidByText := true, laidKinds := [.data, .pinned], laidTests := true, laidLooks := .later }
def AbnfPartsUptoCardSaid : Prop := Claim7.holds Tryz.pinned (.plain (OpenSpec.upto abnfPartsSpec)) abnfPartsUptoCard

/-- THE SECOND FORM's CARD OF 'shibbolethlaw18.WhatwgKnown'. -/
def whatwgKnownUptoCard : Claim7 := { stood := { row := whatwgKnownUptoRow, standIns := [], harness := (true, "17470a5174f87d0f34de0067377e54d9ada21992e850241f37fa28b146c8ce3e"), looks := true }, kinds := [], alts := [], laidByText := true, laidKinds := [.data, .pinned], laidTests := true, laidLooks := .later }
def WhatwgKnownUptoCardSaid : Prop := Claim7.holds Tryz.pinned (.plain (OpenSpec.upto whatwgKnownSpec)) whatwgKnownUptoCard

/-- THE SECOND FORM's CARD OF 'shibbolethlaw18.WhatwgTells'. -/
def whatwgTellsUptoCard : Claim7 := { stood := { row := whatwgTellsUptoRow, standIns := [], harness := (true, "17470a5174f87d0f34de0067377e54d9ada21992e850241f37fa28b146c8ce3e"), looks := true }, kinds := [], alts := [], laidByText := true, laidKinds := [.data, .pinned], laidTests := true, laidLooks := .later }
def WhatwgTellsUptoCardSaid : Prop := Claim7.holds Tryz.pinned (.plain (OpenSpec.upto whatwgTellsSpec)) whatwgTellsUptoCard

/-- THE SECOND FORM's CARD OF 'shibbolethlaw18.WhatwgStrips'. -/
def whatwgStripsUptoCard : Claim7 := { stood := { row := whatwgStripsUptoRow, standIns := [], harness := (true, "17470a5174f87d0f34de0067377e54d9ada21992e850241f37fa28b146c8ce3e"), looks := true }, kinds := [], alts := [], laidByText := true, laidKinds := [.data, .pinned], laidTests := true, laidLooks := .later }
def WhatwgStripsUptoCardSaid : Prop := Claim7.holds Tryz.pinned (.plain (OpenSpec.upto whatwgStripsSpec)) whatwgStripsUptoCard

/-- THE SECOND FORM's CARD OF 'shibbolethlaw18.WhatwgParts'. -/
def whatwgPartsUptoCard : Claim7 := { stood := { row := whatwgPartsUptoRow, standIns := [], harness := (true, "17470a5174f87d0f34de0067377e54d9ada21992e850241f37fa28b146c8ce3e"), looks := true }, kinds := [], alts := [], laidByText := true, laidKinds := [.data, .pinned], laidTests := true, laidLooks := .later }
def WhatwgPartsUptoCardSaid : Prop := Claim7.holds Tryz.pinned (.plain (OpenSpec.upto whatwgPartsSpec)) whatwgPartsUptoCard

/-- THE SECOND FORM's CARD OF 'shibbolethlaw18.WhatwgFields'. -/
def whatwgFieldsUptoCard : Claim7 := { stood := { row := whatwgFieldsUptoRow, standIns := [], harness := (true, "17470a5174f87d0f34de0067377e54d9ada21992e850241f37fa28b146c8ce3e"), looks := true }, kinds := [], alts := [], laidByText := true, laidKinds := [.data, .pinned], laidTests := true, laidLooks := .later }
def WhatwgFieldsUptoCardSaid : Prop := Claim7.holds Tryz.pinned (.plain (OpenSpec.upto whatwgFieldsSpec)) whatwgFieldsUptoCard
end Rows
end Go.Proofs.YtiihgddpejmehaaGreatDoor
