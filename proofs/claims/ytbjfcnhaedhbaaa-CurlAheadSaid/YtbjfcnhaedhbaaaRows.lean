/-
  No cell of these rows narrows 'for every input' (looked for: loops, veiled, ifaces, maps, wideKeys, modest, calm, conditions, laid).
  DERIVED. THE GIVEN ROWS OF THIS SEAT. 9 by the template 'for every input the law returns true; each argument reads behind the call as it read before'; 0 by the template 'total and deterministic' (their statements: YtbjfcnhaedhbaaaTotals.lean).
  GIVEN WITH THE SEED: the statements are not yours to turn. If you find one false, say at which input.
  Laid BY PROGRAM, IN A SANDBOX (cutbox-rows.mjs): the forced cells as the released guide's own fill.sh prints them over the translation 2e1c6449950ad981… (all of the seat's roots in one cut). By AI agents, Wed Nov 11 2026. No macro, syntax, notation, axiom, sorry.
-/
import Derived.Test.YtbjfcnhaedhbaaaChecked
import GoSem.Claim
import GoSem.ClaimJoined
import GoSem.ClaimMapViews
import Derived.JoinedTies
import Derived.KernelRfl
namespace Go.Proofs.Ytbjfcnhaedhbaaa
/- THE CELL 'sum', in the pinned program and in every row, IS THE sha256 OF THE DUMP (.gsa) THAT YtbjfcnhaedhbaaaProg.lean LOADS. Nothing in Lean hashes anything: it is a label: what it is worth is what the hold of that sum in a sandbox is worth. -/
noncomputable def Try.pinned : Pinned := { name := "ytbjfcnhaedhbaaa", sum := "2e1c6449950ad981daf8cf35670b6a307def5e4b5bcfdcc289b14fcf277df616", checked := Try.checked }
namespace Rows
def none {H : Type} : Left H := { results := [], args := [] }

/-- 'shibbolethlaw21.PyurlParses': WHATEVER THE INPUT: true; the input reads as it did. -/
def pyurlParsesSpec : ChangeSpec := { name := "pyurlParses", fn := fun _ => fun
  | [d] => { results := [.lit (.bool true)], args := [d] }
  | _ => none }
def pyurlParsesRow : OpenClaim := { program := "ytbjfcnhaedhbaaa", sum := "2e1c6449950ad981daf8cf35670b6a307def5e4b5bcfdcc289b14fcf277df616", func := "shibboleth/shibbolethlaw21.PyurlParses", spec := "pyurlParses", inPlace := ["internal/bytealg.IndexByteString", "internal/bytealg.IndexString"], named := ["internal/bytealg.MaxLen"], apart := false }
def PyurlParsesSaid : Prop := pyurlParsesRow.holds Try.pinned (OpenSpec.ofChange pyurlParsesSpec)

/-- ITS FALSE NEIGHBOUR: 'it returns false'. Refute it at one input. -/
def pyurlParsesWrong : ChangeSpec := { name := "pyurlParses", fn := fun _ => fun
  | [d] => { results := [.lit (.bool false)], args := [d] }
  | _ => none }
def PyurlParsesWrongFalsely : Prop := pyurlParsesRow.holds Try.pinned (OpenSpec.ofChange pyurlParsesWrong)

/-- 'shibbolethlaw21.PyurlKnown': WHATEVER THE INPUT: true; the input reads as it did. -/
def pyurlKnownSpec : ChangeSpec := { name := "pyurlKnown", fn := fun _ => fun
  | [] => { results := [.lit (.bool true)], args := [] }
  | _ => none }
def pyurlKnownRow : OpenClaim := { program := "ytbjfcnhaedhbaaa", sum := "2e1c6449950ad981daf8cf35670b6a307def5e4b5bcfdcc289b14fcf277df616", func := "shibboleth/shibbolethlaw21.PyurlKnown", spec := "pyurlKnown", inPlace := ["internal/bytealg.IndexByteString", "internal/bytealg.IndexString"], named := ["internal/bytealg.MaxLen"], apart := false }
def PyurlKnownSaid : Prop := pyurlKnownRow.holds Try.pinned (OpenSpec.ofChange pyurlKnownSpec)

/-- ITS FALSE NEIGHBOUR: 'it returns false'. Refute it at one input. -/
def pyurlKnownWrong : ChangeSpec := { name := "pyurlKnown", fn := fun _ => fun
  | [] => { results := [.lit (.bool false)], args := [] }
  | _ => none }
def PyurlKnownWrongFalsely : Prop := pyurlKnownRow.holds Try.pinned (OpenSpec.ofChange pyurlKnownWrong)

/-- 'shibbolethlaw21.PyurlNever': WHATEVER THE INPUT: true; the input reads as it did. -/
def pyurlNeverSpec : ChangeSpec := { name := "pyurlNever", fn := fun _ => fun
  | [d1, d2, d3] => { results := [.lit (.bool true)], args := [d1, d2, d3] }
  | _ => none }
def pyurlNeverRow : OpenClaim := { program := "ytbjfcnhaedhbaaa", sum := "2e1c6449950ad981daf8cf35670b6a307def5e4b5bcfdcc289b14fcf277df616", func := "shibboleth/shibbolethlaw21.PyurlNever", spec := "pyurlNever", inPlace := ["internal/bytealg.IndexByteString", "internal/bytealg.IndexString"], named := ["internal/bytealg.MaxLen"], apart := false }
def PyurlNeverSaid : Prop := pyurlNeverRow.holds Try.pinned (OpenSpec.ofChange pyurlNeverSpec)

/-- ITS FALSE NEIGHBOUR: 'it returns false'. Refute it at one input. -/
def pyurlNeverWrong : ChangeSpec := { name := "pyurlNever", fn := fun _ => fun
  | [d1, d2, d3] => { results := [.lit (.bool false)], args := [d1, d2, d3] }
  | _ => none }
def PyurlNeverWrongFalsely : Prop := pyurlNeverRow.holds Try.pinned (OpenSpec.ofChange pyurlNeverWrong)

/-- 'shibbolethlaw21.PyurlBuilt': WHATEVER THE INPUT: true; the input reads as it did. -/
def pyurlBuiltSpec : ChangeSpec := { name := "pyurlBuilt", fn := fun _ => fun
  | [d1, d2, d3, d4, d5, d6] => { results := [.lit (.bool true)], args := [d1, d2, d3, d4, d5, d6] }
  | _ => none }
def pyurlBuiltRow : OpenClaim := { program := "ytbjfcnhaedhbaaa", sum := "2e1c6449950ad981daf8cf35670b6a307def5e4b5bcfdcc289b14fcf277df616", func := "shibboleth/shibbolethlaw21.PyurlBuilt", spec := "pyurlBuilt", inPlace := ["internal/bytealg.IndexByteString", "internal/bytealg.IndexString"], named := ["internal/bytealg.MaxLen"], apart := false }
def PyurlBuiltSaid : Prop := pyurlBuiltRow.holds Try.pinned (OpenSpec.ofChange pyurlBuiltSpec)

/-- ITS FALSE NEIGHBOUR: 'it returns false'. Refute it at one input. -/
def pyurlBuiltWrong : ChangeSpec := { name := "pyurlBuilt", fn := fun _ => fun
  | [d1, d2, d3, d4, d5, d6] => { results := [.lit (.bool false)], args := [d1, d2, d3, d4, d5, d6] }
  | _ => none }
def PyurlBuiltWrongFalsely : Prop := pyurlBuiltRow.holds Try.pinned (OpenSpec.ofChange pyurlBuiltWrong)

/-- 'shibbolethlaw22.CurlParses': WHATEVER THE INPUT: true; the input reads as it did. -/
def curlParsesSpec : ChangeSpec := { name := "curlParses", fn := fun _ => fun
  | [d] => { results := [.lit (.bool true)], args := [d] }
  | _ => none }
def curlParsesRow : OpenClaim := { program := "ytbjfcnhaedhbaaa", sum := "2e1c6449950ad981daf8cf35670b6a307def5e4b5bcfdcc289b14fcf277df616", func := "shibboleth/shibbolethlaw22.CurlParses", spec := "curlParses", inPlace := ["internal/bytealg.IndexByteString", "internal/bytealg.IndexString"], unfollowed := true, recurses := true, named := ["internal/bytealg.MaxLen"], apart := false }
def CurlParsesSaid : Prop := curlParsesRow.holds Try.pinned (OpenSpec.ofChange curlParsesSpec)

/-- ITS FALSE NEIGHBOUR: 'it returns false'. Refute it at one input. -/
def curlParsesWrong : ChangeSpec := { name := "curlParses", fn := fun _ => fun
  | [d] => { results := [.lit (.bool false)], args := [d] }
  | _ => none }
def CurlParsesWrongFalsely : Prop := curlParsesRow.holds Try.pinned (OpenSpec.ofChange curlParsesWrong)

/-- 'shibbolethlaw22.CurlKnown': WHATEVER THE INPUT: true; the input reads as it did. -/
def curlKnownSpec : ChangeSpec := { name := "curlKnown", fn := fun _ => fun
  | [] => { results := [.lit (.bool true)], args := [] }
  | _ => none }
def curlKnownRow : OpenClaim := { program := "ytbjfcnhaedhbaaa", sum := "2e1c6449950ad981daf8cf35670b6a307def5e4b5bcfdcc289b14fcf277df616", func := "shibboleth/shibbolethlaw22.CurlKnown", spec := "curlKnown", inPlace := ["internal/bytealg.IndexByteString", "internal/bytealg.IndexString"], unfollowed := true, recurses := true, named := ["internal/bytealg.MaxLen"], apart := false }
def CurlKnownSaid : Prop := curlKnownRow.holds Try.pinned (OpenSpec.ofChange curlKnownSpec)

/-- ITS FALSE NEIGHBOUR: 'it returns false'. Refute it at one input. -/
def curlKnownWrong : ChangeSpec := { name := "curlKnown", fn := fun _ => fun
  | [] => { results := [.lit (.bool false)], args := [] }
  | _ => none }
def CurlKnownWrongFalsely : Prop := curlKnownRow.holds Try.pinned (OpenSpec.ofChange curlKnownWrong)

/-- 'shibbolethlaw22.CurlSpans': WHATEVER THE INPUT: true; the input reads as it did. -/
def curlSpansSpec : ChangeSpec := { name := "curlSpans", fn := fun _ => fun
  | [d] => { results := [.lit (.bool true)], args := [d] }
  | _ => none }
def curlSpansRow : OpenClaim := { program := "ytbjfcnhaedhbaaa", sum := "2e1c6449950ad981daf8cf35670b6a307def5e4b5bcfdcc289b14fcf277df616", func := "shibboleth/shibbolethlaw22.CurlSpans", spec := "curlSpans", inPlace := ["internal/bytealg.IndexByteString", "internal/bytealg.IndexString"], unfollowed := true, recurses := true, named := ["internal/bytealg.MaxLen"], apart := false }
def CurlSpansSaid : Prop := curlSpansRow.holds Try.pinned (OpenSpec.ofChange curlSpansSpec)

/-- ITS FALSE NEIGHBOUR: 'it returns false'. Refute it at one input. -/
def curlSpansWrong : ChangeSpec := { name := "curlSpans", fn := fun _ => fun
  | [d] => { results := [.lit (.bool false)], args := [d] }
  | _ => none }
def CurlSpansWrongFalsely : Prop := curlSpansRow.holds Try.pinned (OpenSpec.ofChange curlSpansWrong)

/-- 'shibbolethlaw22.CurlAhead': WHATEVER THE INPUT: true; the input reads as it did. -/
def curlAheadSpec : ChangeSpec := { name := "curlAhead", fn := fun _ => fun
  | [d1, d2] => { results := [.lit (.bool true)], args := [d1, d2] }
  | _ => none }
def curlAheadRow : OpenClaim := { program := "ytbjfcnhaedhbaaa", sum := "2e1c6449950ad981daf8cf35670b6a307def5e4b5bcfdcc289b14fcf277df616", func := "shibboleth/shibbolethlaw22.CurlAhead", spec := "curlAhead", inPlace := ["internal/bytealg.IndexByteString", "internal/bytealg.IndexString"], unfollowed := true, recurses := true, named := ["internal/bytealg.MaxLen"], apart := false }
def CurlAheadSaid : Prop := curlAheadRow.holds Try.pinned (OpenSpec.ofChange curlAheadSpec)

/-- ITS FALSE NEIGHBOUR: 'it returns false'. Refute it at one input. -/
def curlAheadWrong : ChangeSpec := { name := "curlAhead", fn := fun _ => fun
  | [d1, d2] => { results := [.lit (.bool false)], args := [d1, d2] }
  | _ => none }
def CurlAheadWrongFalsely : Prop := curlAheadRow.holds Try.pinned (OpenSpec.ofChange curlAheadWrong)

/-- 'shibbolethlaw22.CurlBuilt': WHATEVER THE INPUT: true; the input reads as it did. -/
def curlBuiltSpec : ChangeSpec := { name := "curlBuilt", fn := fun _ => fun
  | [d1, d2, d3, d4, d5] => { results := [.lit (.bool true)], args := [d1, d2, d3, d4, d5] }
  | _ => none }
def curlBuiltRow : OpenClaim := { program := "ytbjfcnhaedhbaaa", sum := "2e1c6449950ad981daf8cf35670b6a307def5e4b5bcfdcc289b14fcf277df616", func := "shibboleth/shibbolethlaw22.CurlBuilt", spec := "curlBuilt", inPlace := ["internal/bytealg.IndexByteString", "internal/bytealg.IndexString"], unfollowed := true, recurses := true, named := ["internal/bytealg.MaxLen"], apart := false }
def CurlBuiltSaid : Prop := curlBuiltRow.holds Try.pinned (OpenSpec.ofChange curlBuiltSpec)

/-- ITS FALSE NEIGHBOUR: 'it returns false'. Refute it at one input. -/
def curlBuiltWrong : ChangeSpec := { name := "curlBuilt", fn := fun _ => fun
  | [d1, d2, d3, d4, d5] => { results := [.lit (.bool false)], args := [d1, d2, d3, d4, d5] }
  | _ => none }
def CurlBuiltWrongFalsely : Prop := curlBuiltRow.holds Try.pinned (OpenSpec.ofChange curlBuiltWrong)

/- THE SECOND FORM. 'bulk': how many values and letters a reading holds, each counted each time it is reached (what is shared counts as often as it is met; a slice's spare places count too). A statement '..UptoSaid' is the law's where the arguments, and the package variables that the reading takes, are together of bulk at most 1048576: NARROWER than '..Said'. Prove '..Said' where nothing that the law and all that it calls make is longer than what came in: it says more and counts as full. Else prove '..UptoSaid'. A law counts once. -/
mutual
def uptoBulk {H : Type} : DataW H → Nat
  | .lit (.string bytes) => bytes.length + 1
  | .lit _ => 1
  | .nil => 1
  | .ptr d => uptoBulk d + 1
  | .slice elems spare => uptoBulkAll elems + uptoBulkAll spare + 1
  | .agg parts => uptoBulkAll parts + 1
  | .iface _ d => uptoBulk d + 1
  | .map entries => uptoBulkEntries entries + 1
  | .held _ => 1
def uptoBulkAll {H : Type} : List (DataW H) → Nat
  | [] => 0
  | d :: r => uptoBulk d + uptoBulkAll r
def uptoBulkEntries {H : Type} : List (Lit × DataW H) → Nat
  | [] => 0
  | x :: r => uptoBulkEntry x + uptoBulkEntries r
def uptoBulkEntry {H : Type} : Lit × DataW H → Nat
  | (.string bytes, d) => bytes.length + uptoBulk d + 1
  | (_, d) => uptoBulk d + 1
 end
def uptoSmall : (H : Type) → List (DataW H) → Bool := fun _ ds => decide (uptoBulkAll ds ≤ 1048576)
def OpenSpec.upto (s : _root_.Go.ChangeSpec) : _root_.Go.OpenSpec := { _root_.Go.OpenSpec.ofChange s with cond := some uptoSmall }

/-- 'shibbolethlaw21.PyurlParses', WHERE WHAT IT READS IS OF BULK AT MOST 1048576: true; the input reads as it did. -/
def pyurlParsesUptoRow : OpenClaim := { program := "ytbjfcnhaedhbaaa", sum := "2e1c6449950ad981daf8cf35670b6a307def5e4b5bcfdcc289b14fcf277df616", func := "shibboleth/shibbolethlaw21.PyurlParses", spec := "pyurlParses", inPlace := ["internal/bytealg.IndexByteString", "internal/bytealg.IndexString"], named := ["internal/bytealg.MaxLen"], apart := false, narrowed := true }
def PyurlParsesUptoSaid : Prop := pyurlParsesUptoRow.holds Try.pinned (OpenSpec.upto pyurlParsesSpec)

/-- 'shibbolethlaw21.PyurlKnown', WHERE WHAT IT READS IS OF BULK AT MOST 1048576: true; the input reads as it did. -/
def pyurlKnownUptoRow : OpenClaim := { program := "ytbjfcnhaedhbaaa", sum := "2e1c6449950ad981daf8cf35670b6a307def5e4b5bcfdcc289b14fcf277df616", func := "shibboleth/shibbolethlaw21.PyurlKnown", spec := "pyurlKnown", inPlace := ["internal/bytealg.IndexByteString", "internal/bytealg.IndexString"], named := ["internal/bytealg.MaxLen"], apart := false, narrowed := true }
def PyurlKnownUptoSaid : Prop := pyurlKnownUptoRow.holds Try.pinned (OpenSpec.upto pyurlKnownSpec)

/-- 'shibbolethlaw21.PyurlNever', WHERE WHAT IT READS IS OF BULK AT MOST 1048576: true; the input reads as it did. -/
def pyurlNeverUptoRow : OpenClaim := { program := "ytbjfcnhaedhbaaa", sum := "2e1c6449950ad981daf8cf35670b6a307def5e4b5bcfdcc289b14fcf277df616", func := "shibboleth/shibbolethlaw21.PyurlNever", spec := "pyurlNever", inPlace := ["internal/bytealg.IndexByteString", "internal/bytealg.IndexString"], named := ["internal/bytealg.MaxLen"], apart := false, narrowed := true }
def PyurlNeverUptoSaid : Prop := pyurlNeverUptoRow.holds Try.pinned (OpenSpec.upto pyurlNeverSpec)

/-- 'shibbolethlaw21.PyurlBuilt', WHERE WHAT IT READS IS OF BULK AT MOST 1048576: true; the input reads as it did. -/
def pyurlBuiltUptoRow : OpenClaim := { program := "ytbjfcnhaedhbaaa", sum := "2e1c6449950ad981daf8cf35670b6a307def5e4b5bcfdcc289b14fcf277df616", func := "shibboleth/shibbolethlaw21.PyurlBuilt", spec := "pyurlBuilt", inPlace := ["internal/bytealg.IndexByteString", "internal/bytealg.IndexString"], named := ["internal/bytealg.MaxLen"], apart := false, narrowed := true }
def PyurlBuiltUptoSaid : Prop := pyurlBuiltUptoRow.holds Try.pinned (OpenSpec.upto pyurlBuiltSpec)

/-- 'shibbolethlaw22.CurlParses', WHERE WHAT IT READS IS OF BULK AT MOST 1048576: true; the input reads as it did. -/
def curlParsesUptoRow : OpenClaim := { program := "ytbjfcnhaedhbaaa", sum := "2e1c6449950ad981daf8cf35670b6a307def5e4b5bcfdcc289b14fcf277df616", func := "shibboleth/shibbolethlaw22.CurlParses", spec := "curlParses", inPlace := ["internal/bytealg.IndexByteString", "internal/bytealg.IndexString"], unfollowed := true, recurses := true, named := ["internal/bytealg.MaxLen"], apart := false, narrowed := true }
def CurlParsesUptoSaid : Prop := curlParsesUptoRow.holds Try.pinned (OpenSpec.upto curlParsesSpec)

/-- 'shibbolethlaw22.CurlKnown', WHERE WHAT IT READS IS OF BULK AT MOST 1048576: true; the input reads as it did. -/
def curlKnownUptoRow : OpenClaim := { program := "ytbjfcnhaedhbaaa", sum := "2e1c6449950ad981daf8cf35670b6a307def5e4b5bcfdcc289b14fcf277df616", func := "shibboleth/shibbolethlaw22.CurlKnown", spec := "curlKnown", inPlace := ["internal/bytealg.IndexByteString", "internal/bytealg.IndexString"], unfollowed := true, recurses := true, named := ["internal/bytealg.MaxLen"], apart := false, narrowed := true }
def CurlKnownUptoSaid : Prop := curlKnownUptoRow.holds Try.pinned (OpenSpec.upto curlKnownSpec)

/-- 'shibbolethlaw22.CurlSpans', WHERE WHAT IT READS IS OF BULK AT MOST 1048576: true; the input reads as it did. -/
def curlSpansUptoRow : OpenClaim := { program := "ytbjfcnhaedhbaaa", sum := "2e1c6449950ad981daf8cf35670b6a307def5e4b5bcfdcc289b14fcf277df616", func := "shibboleth/shibbolethlaw22.CurlSpans", spec := "curlSpans", inPlace := ["internal/bytealg.IndexByteString", "internal/bytealg.IndexString"], unfollowed := true, recurses := true, named := ["internal/bytealg.MaxLen"], apart := false, narrowed := true }
def CurlSpansUptoSaid : Prop := curlSpansUptoRow.holds Try.pinned (OpenSpec.upto curlSpansSpec)

/-- 'shibbolethlaw22.CurlAhead', WHERE WHAT IT READS IS OF BULK AT MOST 1048576: true; the input reads as it did. -/
def curlAheadUptoRow : OpenClaim := { program := "ytbjfcnhaedhbaaa", sum := "2e1c6449950ad981daf8cf35670b6a307def5e4b5bcfdcc289b14fcf277df616", func := "shibboleth/shibbolethlaw22.CurlAhead", spec := "curlAhead", inPlace := ["internal/bytealg.IndexByteString", "internal/bytealg.IndexString"], unfollowed := true, recurses := true, named := ["internal/bytealg.MaxLen"], apart := false, narrowed := true }
def CurlAheadUptoSaid : Prop := curlAheadUptoRow.holds Try.pinned (OpenSpec.upto curlAheadSpec)

/-- 'shibbolethlaw22.CurlBuilt', WHERE WHAT IT READS IS OF BULK AT MOST 1048576: true; the input reads as it did. -/
def curlBuiltUptoRow : OpenClaim := { program := "ytbjfcnhaedhbaaa", sum := "2e1c6449950ad981daf8cf35670b6a307def5e4b5bcfdcc289b14fcf277df616", func := "shibboleth/shibbolethlaw22.CurlBuilt", spec := "curlBuilt", inPlace := ["internal/bytealg.IndexByteString", "internal/bytealg.IndexString"], unfollowed := true, recurses := true, named := ["internal/bytealg.MaxLen"], apart := false, narrowed := true }
def CurlBuiltUptoSaid : Prop := curlBuiltUptoRow.holds Try.pinned (OpenSpec.upto curlBuiltSpec)

end Rows
end Go.Proofs.Ytbjfcnhaedhbaaa
