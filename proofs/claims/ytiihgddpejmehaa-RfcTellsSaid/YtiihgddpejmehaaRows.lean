/-
  No cell of these rows narrows 'for every input' (looked for: loops, veiled, ifaces, maps, wideKeys, modest, calm, conditions, laid).
  DERIVED. THE GIVEN ROWS OF THIS SEAT. 5 by the template 'for every input the law returns true; each argument reads behind the call as it read before'; 0 by the template 'total and deterministic' (their statements: YtiihgddpejmehaaTotals.lean).
  GIVEN WITH THE SEED: the statements are not yours to turn. If you find one false, say at which input.
  Laid BY PROGRAM, IN A SANDBOX (cutbox-rows.mjs): the forced cells as the released guide's own fill.sh prints them over the translation e49cbed97a01638b… (all of the seat's roots in one cut). By AI agents, Wed Nov 11 2026. No macro, syntax, notation, axiom, sorry.
-/
import Derived.Test.YtiihgddpejmehaaChecked
import GoSem.Claim
import GoSem.ClaimJoined
import GoSem.ClaimMapViews
import Derived.JoinedTies
import Derived.KernelRfl
namespace Go.Proofs.Ytiihgddpejmehaa
/- THE CELL 'sum', in the pinned program and in every row, IS THE sha256 OF THE DUMP (.gsa) THAT YtiihgddpejmehaaProg.lean LOADS. Nothing in Lean hashes anything: it is a label: what it is worth is what the hold of that sum in a sandbox is worth. -/
noncomputable def Try.pinned : Pinned := { name := "ytiihgddpejmehaa", sum := "e49cbed97a01638b0173768ceb747c751c45aba6c76ede6d23e39e5d7acbe0af", checked := Try.checked }
namespace Rows
def none {H : Type} : Left H := { results := [], args := [] }

/-- 'shibbolethlaw19.RfcKnown': WHATEVER THE INPUT: true; the input reads as it did. -/
def rfcKnownSpec : ChangeSpec := { name := "rfcKnown", fn := fun _ => fun
  | [] => { results := [.lit (.bool true)], args := [] }
  | _ => none }
def rfcKnownRow : OpenClaim := { program := "ytiihgddpejmehaa", sum := "e49cbed97a01638b0173768ceb747c751c45aba6c76ede6d23e39e5d7acbe0af", func := "shibboleth/shibbolethlaw19.RfcKnown", spec := "rfcKnown", inPlace := ["internal/bytealg.IndexByteString", "internal/bytealg.IndexString", "internal/bytealg.CountString"], named := ["internal/bytealg.MaxLen"], apart := false }
def RfcKnownSaid : Prop := rfcKnownRow.holds Try.pinned (OpenSpec.ofChange rfcKnownSpec)

/-- ITS FALSE NEIGHBOUR: 'it returns false'. Refute it at one input. -/
def rfcKnownWrong : ChangeSpec := { name := "rfcKnown", fn := fun _ => fun
  | [] => { results := [.lit (.bool false)], args := [] }
  | _ => none }
def RfcKnownWrongFalsely : Prop := rfcKnownRow.holds Try.pinned (OpenSpec.ofChange rfcKnownWrong)

/-- 'shibbolethlaw19.RfcTells': WHATEVER THE INPUT: true; the input reads as it did. -/
def rfcTellsSpec : ChangeSpec := { name := "rfcTells", fn := fun _ => fun
  | [d] => { results := [.lit (.bool true)], args := [d] }
  | _ => none }
def rfcTellsRow : OpenClaim := { program := "ytiihgddpejmehaa", sum := "e49cbed97a01638b0173768ceb747c751c45aba6c76ede6d23e39e5d7acbe0af", func := "shibboleth/shibbolethlaw19.RfcTells", spec := "rfcTells", inPlace := ["internal/bytealg.IndexByteString", "internal/bytealg.IndexString", "internal/bytealg.CountString"], named := ["internal/bytealg.MaxLen"], apart := false }
def RfcTellsSaid : Prop := rfcTellsRow.holds Try.pinned (OpenSpec.ofChange rfcTellsSpec)

/-- ITS FALSE NEIGHBOUR: 'it returns false'. Refute it at one input. -/
def rfcTellsWrong : ChangeSpec := { name := "rfcTells", fn := fun _ => fun
  | [d] => { results := [.lit (.bool false)], args := [d] }
  | _ => none }
def RfcTellsWrongFalsely : Prop := rfcTellsRow.holds Try.pinned (OpenSpec.ofChange rfcTellsWrong)

/-- 'shibbolethlaw19.RfcSplits': WHATEVER THE INPUT: true; the input reads as it did. -/
def rfcSplitsSpec : ChangeSpec := { name := "rfcSplits", fn := fun _ => fun
  | [d] => { results := [.lit (.bool true)], args := [d] }
  | _ => none }
def rfcSplitsRow : OpenClaim := { program := "ytiihgddpejmehaa", sum := "e49cbed97a01638b0173768ceb747c751c45aba6c76ede6d23e39e5d7acbe0af", func := "shibboleth/shibbolethlaw19.RfcSplits", spec := "rfcSplits", inPlace := ["internal/bytealg.IndexByteString", "internal/bytealg.IndexString", "internal/bytealg.CountString"], named := ["internal/bytealg.MaxLen"], apart := false }
def RfcSplitsSaid : Prop := rfcSplitsRow.holds Try.pinned (OpenSpec.ofChange rfcSplitsSpec)

/-- ITS FALSE NEIGHBOUR: 'it returns false'. Refute it at one input. -/
def rfcSplitsWrong : ChangeSpec := { name := "rfcSplits", fn := fun _ => fun
  | [d] => { results := [.lit (.bool false)], args := [d] }
  | _ => none }
def RfcSplitsWrongFalsely : Prop := rfcSplitsRow.holds Try.pinned (OpenSpec.ofChange rfcSplitsWrong)

/-- 'shibbolethlaw19.RfcParts': WHATEVER THE INPUT: true; the input reads as it did. -/
def rfcPartsSpec : ChangeSpec := { name := "rfcParts", fn := fun _ => fun
  | [d1, d2, d3, d4, d5, d6, d7] => { results := [.lit (.bool true)], args := [d1, d2, d3, d4, d5, d6, d7] }
  | _ => none }
def rfcPartsRow : OpenClaim := { program := "ytiihgddpejmehaa", sum := "e49cbed97a01638b0173768ceb747c751c45aba6c76ede6d23e39e5d7acbe0af", func := "shibboleth/shibbolethlaw19.RfcParts", spec := "rfcParts", inPlace := ["internal/bytealg.IndexByteString", "internal/bytealg.IndexString", "internal/bytealg.CountString"], named := ["internal/bytealg.MaxLen"], apart := false }
def RfcPartsSaid : Prop := rfcPartsRow.holds Try.pinned (OpenSpec.ofChange rfcPartsSpec)

/-- ITS FALSE NEIGHBOUR: 'it returns false'. Refute it at one input. -/
def rfcPartsWrong : ChangeSpec := { name := "rfcParts", fn := fun _ => fun
  | [d1, d2, d3, d4, d5, d6, d7] => { results := [.lit (.bool false)], args := [d1, d2, d3, d4, d5, d6, d7] }
  | _ => none }
def RfcPartsWrongFalsely : Prop := rfcPartsRow.holds Try.pinned (OpenSpec.ofChange rfcPartsWrong)

/-- 'shibbolethlaw19.RfcFields': WHATEVER THE INPUT: true; the input reads as it did. -/
def rfcFieldsSpec : ChangeSpec := { name := "rfcFields", fn := fun _ => fun
  | [d] => { results := [.lit (.bool true)], args := [d] }
  | _ => none }
def rfcFieldsRow : OpenClaim := { program := "ytiihgddpejmehaa", sum := "e49cbed97a01638b0173768ceb747c751c45aba6c76ede6d23e39e5d7acbe0af", func := "shibboleth/shibbolethlaw19.RfcFields", spec := "rfcFields", inPlace := ["internal/bytealg.IndexByteString", "internal/bytealg.IndexString", "internal/bytealg.CountString"], named := ["internal/bytealg.MaxLen"], apart := false }
def RfcFieldsSaid : Prop := rfcFieldsRow.holds Try.pinned (OpenSpec.ofChange rfcFieldsSpec)

/-- ITS FALSE NEIGHBOUR: 'it returns false'. Refute it at one input. -/
def rfcFieldsWrong : ChangeSpec := { name := "rfcFields", fn := fun _ => fun
  | [d] => { results := [.lit (.bool false)], args := [d] }
  | _ => none }
def RfcFieldsWrongFalsely : Prop := rfcFieldsRow.holds Try.pinned (OpenSpec.ofChange rfcFieldsWrong)

/- THE SECOND FORM. 'bulk': how many values and letters a reading holds, each counted each time it is reached (what is shared counts as often as it is met; a slice's spare places count too). A statement '..UptoSaid' is the law's where the arguments, and the package variables that the reading takes, are together of bulk at most 1048576: NARROWER than '..Said'. Prove '..Said' where nothing that the law and all that it calls make is longer than what came in: it says more and counts as full. Else prove '..UptoSaid'. A law counts once. -/
mutual
def uptoBulk {H : Type} : DataW H → Nat
  | .lit (.string bytes) => bytes.length + 1
  | .lit _ => 1
  | .nil => 1
  | .ptr d => uptoBulk d + 1
  | .slice elems spare => uptoBulkAll elems + uptoBulkAll spare + 1
  | .agg parts => uptoBulkAll parts + 1
  | .iface _ d => uptoBulk d + 1
  | .map entries => uptoBulkEntries entries + 1
  | .held _ => 1
def uptoBulkAll {H : Type} : List (DataW H) → Nat
  | [] => 0
  | d :: r => uptoBulk d + uptoBulkAll r
def uptoBulkEntries {H : Type} : List (Lit × DataW H) → Nat
  | [] => 0
  | x :: r => uptoBulkEntry x + uptoBulkEntries r
def uptoBulkEntry {H : Type} : Lit × DataW H → Nat
  | (.string bytes, d) => bytes.length + uptoBulk d + 1
  | (_, d) => uptoBulk d + 1
 end
def uptoSmall : (H : Type) → List (DataW H) → Bool := fun _ ds => decide (uptoBulkAll ds ≤ 1048576)
def OpenSpec.upto (s : _root_.Go.ChangeSpec) : _root_.Go.OpenSpec := { _root_.Go.OpenSpec.ofChange s with cond := some uptoSmall }

/-- 'shibbolethlaw19.RfcKnown', WHERE WHAT IT READS IS OF BULK AT MOST 1048576: true; the input reads as it did. -/
def rfcKnownUptoRow : OpenClaim := { program := "ytiihgddpejmehaa", sum := "e49cbed97a01638b0173768ceb747c751c45aba6c76ede6d23e39e5d7acbe0af", func := "shibboleth/shibbolethlaw19.RfcKnown", spec := "rfcKnown", inPlace := ["internal/bytealg.IndexByteString", "internal/bytealg.IndexString", "internal/bytealg.CountString"], named := ["internal/bytealg.MaxLen"], apart := false, narrowed := true }
def RfcKnownUptoSaid : Prop := rfcKnownUptoRow.holds Try.pinned (OpenSpec.upto rfcKnownSpec)

/-- 'shibbolethlaw19.RfcTells', WHERE WHAT IT READS IS OF BULK AT MOST 1048576: true; the input reads as it did. -/
def rfcTellsUptoRow : OpenClaim := { program := "ytiihgddpejmehaa", sum := "e49cbed97a01638b0173768ceb747c751c45aba6c76ede6d23e39e5d7acbe0af", func := "shibboleth/shibbolethlaw19.RfcTells", spec := "rfcTells", inPlace := ["internal/bytealg.IndexByteString", "internal/bytealg.IndexString", "internal/bytealg.CountString"], named := ["internal/bytealg.MaxLen"], apart := false, narrowed := true }
def RfcTellsUptoSaid : Prop := rfcTellsUptoRow.holds Try.pinned (OpenSpec.upto rfcTellsSpec)

/-- 'shibbolethlaw19.RfcSplits', WHERE WHAT IT READS IS OF BULK AT MOST 1048576: true; the input reads as it did. -/
def rfcSplitsUptoRow : OpenClaim := { program := "ytiihgddpejmehaa", sum := "e49cbed97a01638b0173768ceb747c751c45aba6c76ede6d23e39e5d7acbe0af", func := "shibboleth/shibbolethlaw19.RfcSplits", spec := "rfcSplits", inPlace := ["internal/bytealg.IndexByteString", "internal/bytealg.IndexString", "internal/bytealg.CountString"], named := ["internal/bytealg.MaxLen"], apart := false, narrowed := true }
def RfcSplitsUptoSaid : Prop := rfcSplitsUptoRow.holds Try.pinned (OpenSpec.upto rfcSplitsSpec)

/-- 'shibbolethlaw19.RfcParts', WHERE WHAT IT READS IS OF BULK AT MOST 1048576: true; the input reads as it did. -/
def rfcPartsUptoRow : OpenClaim := { program := "ytiihgddpejmehaa", sum := "e49cbed97a01638b0173768ceb747c751c45aba6c76ede6d23e39e5d7acbe0af", func := "shibboleth/shibbolethlaw19.RfcParts", spec := "rfcParts", inPlace := ["internal/bytealg.IndexByteString", "internal/bytealg.IndexString", "internal/bytealg.CountString"], named := ["internal/bytealg.MaxLen"], apart := false, narrowed := true }
def RfcPartsUptoSaid : Prop := rfcPartsUptoRow.holds Try.pinned (OpenSpec.upto rfcPartsSpec)

/-- 'shibbolethlaw19.RfcFields', WHERE WHAT IT READS IS OF BULK AT MOST 1048576: true; the input reads as it did. -/
def rfcFieldsUptoRow : OpenClaim := { program := "ytiihgddpejmehaa", sum := "e49cbed97a01638b0173768ceb747c751c45aba6c76ede6d23e39e5d7acbe0af", func := "shibboleth/shibbolethlaw19.RfcFields", spec := "rfcFields", inPlace := ["internal/bytealg.IndexByteString", "internal/bytealg.IndexString", "internal/bytealg.CountString"], named := ["internal/bytealg.MaxLen"], apart := false, narrowed := true }
def RfcFieldsUptoSaid : Prop := rfcFieldsUptoRow.holds Try.pinned (OpenSpec.upto rfcFieldsSpec)

end Rows
end Go.Proofs.Ytiihgddpejmehaa
