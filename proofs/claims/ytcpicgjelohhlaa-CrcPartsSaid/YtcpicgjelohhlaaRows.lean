/-
  No cell of these rows narrows 'for every input' (looked for: loops, veiled, ifaces, maps, wideKeys, modest, calm, conditions, laid).
  DERIVED. THE GIVEN ROWS OF THIS SEAT. 7 by the template 'for every input the law returns true; each argument reads behind the call as it read before'; 0 by the template 'total and deterministic' (their statements: YtcpicgjelohhlaaTotals.lean).
  GIVEN WITH THE SEED: the statements are not yours to turn. If you find one false, say at which input.
  Laid BY PROGRAM, IN A SANDBOX (cutbox-rows.mjs): the forced cells as the released guide's own fill.sh prints them over the translation 81d46b5201ab3bf6… (all of the seat's roots in one cut). By AI agents, Wed Nov 11 2026. No macro, syntax, notation, axiom, sorry.
-/
import Derived.Test.YtcpicgjelohhlaaChecked
import GoSem.Claim
import GoSem.ClaimJoined
import GoSem.ClaimMapViews
import Derived.JoinedTies
import Derived.KernelRfl
namespace Go.Proofs.Ytcpicgjelohhlaa
/- THE CELL 'sum', in the pinned program and in every row, IS THE sha256 OF THE DUMP (.gsa) THAT YtcpicgjelohhlaaProg.lean LOADS. Nothing in Lean hashes anything: it is a label: what it is worth is what the hold of that sum in a sandbox is worth. -/
noncomputable def Try.pinned : Pinned := { name := "ytcpicgjelohhlaa", sum := "81d46b5201ab3bf6b82ce3ea199350c8d159c077251bb104e8140d0e8d61b2fe", checked := Try.checked }
namespace Rows
def none {H : Type} : Left H := { results := [], args := [] }

/-- 'plummetlaw04.CrcChecks': WHATEVER THE INPUT: true; the input reads as it did. -/
def crcChecksSpec : ChangeSpec := { name := "crcChecks", fn := fun _ => fun
  | [d1, d2] => { results := [.lit (.bool true)], args := [d1, d2] }
  | _ => none }
def crcChecksRow : OpenClaim := { program := "ytcpicgjelohhlaa", sum := "81d46b5201ab3bf6b82ce3ea199350c8d159c077251bb104e8140d0e8d61b2fe", func := "plummet/plummetlaw04.CrcChecks", spec := "crcChecks", unfollowed := true, recurses := true, apart := false }
def CrcChecksSaid : Prop := crcChecksRow.holds Try.pinned (OpenSpec.ofChange crcChecksSpec)

/-- ITS FALSE NEIGHBOUR: 'it returns false'. Refute it at one input. -/
def crcChecksWrong : ChangeSpec := { name := "crcChecks", fn := fun _ => fun
  | [d1, d2] => { results := [.lit (.bool false)], args := [d1, d2] }
  | _ => none }
def CrcChecksWrongFalsely : Prop := crcChecksRow.holds Try.pinned (OpenSpec.ofChange crcChecksWrong)

/-- 'plummetlaw04.CrcTurned': WHATEVER THE INPUT: true; the input reads as it did. -/
def crcTurnedSpec : ChangeSpec := { name := "crcTurned", fn := fun _ => fun
  | [d1, d2, d3] => { results := [.lit (.bool true)], args := [d1, d2, d3] }
  | _ => none }
def crcTurnedRow : OpenClaim := { program := "ytcpicgjelohhlaa", sum := "81d46b5201ab3bf6b82ce3ea199350c8d159c077251bb104e8140d0e8d61b2fe", func := "plummet/plummetlaw04.CrcTurned", spec := "crcTurned", unfollowed := true, recurses := true, apart := false }
def CrcTurnedSaid : Prop := crcTurnedRow.holds Try.pinned (OpenSpec.ofChange crcTurnedSpec)

/-- ITS FALSE NEIGHBOUR: 'it returns false'. Refute it at one input. -/
def crcTurnedWrong : ChangeSpec := { name := "crcTurned", fn := fun _ => fun
  | [d1, d2, d3] => { results := [.lit (.bool false)], args := [d1, d2, d3] }
  | _ => none }
def CrcTurnedWrongFalsely : Prop := crcTurnedRow.holds Try.pinned (OpenSpec.ofChange crcTurnedWrong)

/-- 'plummetlaw21.MixOf': WHATEVER THE INPUT: true; the input reads as it did. -/
def mixOfSpec : ChangeSpec := { name := "mixOf", fn := fun _ => fun
  | [d1, d2] => { results := [.lit (.bool true)], args := [d1, d2] }
  | _ => none }
def mixOfRow : OpenClaim := { program := "ytcpicgjelohhlaa", sum := "81d46b5201ab3bf6b82ce3ea199350c8d159c077251bb104e8140d0e8d61b2fe", func := "plummet/plummetlaw21.MixOf", spec := "mixOf", unfollowed := true, recurses := true, apart := false }
def MixOfSaid : Prop := mixOfRow.holds Try.pinned (OpenSpec.ofChange mixOfSpec)

/-- ITS FALSE NEIGHBOUR: 'it returns false'. Refute it at one input. -/
def mixOfWrong : ChangeSpec := { name := "mixOf", fn := fun _ => fun
  | [d1, d2] => { results := [.lit (.bool false)], args := [d1, d2] }
  | _ => none }
def MixOfWrongFalsely : Prop := mixOfRow.holds Try.pinned (OpenSpec.ofChange mixOfWrong)

/-- 'plummetlaw21.MixApart': WHATEVER THE INPUT: true; the input reads as it did. -/
def mixApartSpec : ChangeSpec := { name := "mixApart", fn := fun _ => fun
  | [d1, d2, d3] => { results := [.lit (.bool true)], args := [d1, d2, d3] }
  | _ => none }
def mixApartRow : OpenClaim := { program := "ytcpicgjelohhlaa", sum := "81d46b5201ab3bf6b82ce3ea199350c8d159c077251bb104e8140d0e8d61b2fe", func := "plummet/plummetlaw21.MixApart", spec := "mixApart", unfollowed := true, recurses := true, apart := false }
def MixApartSaid : Prop := mixApartRow.holds Try.pinned (OpenSpec.ofChange mixApartSpec)

/-- ITS FALSE NEIGHBOUR: 'it returns false'. Refute it at one input. -/
def mixApartWrong : ChangeSpec := { name := "mixApart", fn := fun _ => fun
  | [d1, d2, d3] => { results := [.lit (.bool false)], args := [d1, d2, d3] }
  | _ => none }
def MixApartWrongFalsely : Prop := mixApartRow.holds Try.pinned (OpenSpec.ofChange mixApartWrong)

/-- 'plummetlaw21.MixSpread': WHATEVER THE INPUT: true; the input reads as it did. -/
def mixSpreadSpec : ChangeSpec := { name := "mixSpread", fn := fun _ => fun
  | [d1, d2] => { results := [.lit (.bool true)], args := [d1, d2] }
  | _ => none }
def mixSpreadRow : OpenClaim := { program := "ytcpicgjelohhlaa", sum := "81d46b5201ab3bf6b82ce3ea199350c8d159c077251bb104e8140d0e8d61b2fe", func := "plummet/plummetlaw21.MixSpread", spec := "mixSpread", unfollowed := true, recurses := true, apart := false }
def MixSpreadSaid : Prop := mixSpreadRow.holds Try.pinned (OpenSpec.ofChange mixSpreadSpec)

/-- ITS FALSE NEIGHBOUR: 'it returns false'. Refute it at one input. -/
def mixSpreadWrong : ChangeSpec := { name := "mixSpread", fn := fun _ => fun
  | [d1, d2] => { results := [.lit (.bool false)], args := [d1, d2] }
  | _ => none }
def MixSpreadWrongFalsely : Prop := mixSpreadRow.holds Try.pinned (OpenSpec.ofChange mixSpreadWrong)

/-- 'plummetlaw04.CrcParts': WHATEVER THE INPUT: true; the input reads as it did. -/
def crcPartsSpec : ChangeSpec := { name := "crcParts", fn := fun _ => fun
  | [d] => { results := [.lit (.bool true)], args := [d] }
  | _ => none }
def crcPartsRow : OpenClaim := { program := "ytcpicgjelohhlaa", sum := "81d46b5201ab3bf6b82ce3ea199350c8d159c077251bb104e8140d0e8d61b2fe", func := "plummet/plummetlaw04.CrcParts", spec := "crcParts", unfollowed := true, recurses := true, apart := false }
def CrcPartsSaid : Prop := crcPartsRow.holds Try.pinned (OpenSpec.ofChange crcPartsSpec)

/-- ITS FALSE NEIGHBOUR: 'it returns false'. Refute it at one input. -/
def crcPartsWrong : ChangeSpec := { name := "crcParts", fn := fun _ => fun
  | [d] => { results := [.lit (.bool false)], args := [d] }
  | _ => none }
def CrcPartsWrongFalsely : Prop := crcPartsRow.holds Try.pinned (OpenSpec.ofChange crcPartsWrong)

/-- 'plummetlaw04.CrcNone': WHATEVER THE INPUT: true; the input reads as it did. -/
def crcNoneSpec : ChangeSpec := { name := "crcNone", fn := fun _ => fun
  | [d] => { results := [.lit (.bool true)], args := [d] }
  | _ => none }
def crcNoneRow : OpenClaim := { program := "ytcpicgjelohhlaa", sum := "81d46b5201ab3bf6b82ce3ea199350c8d159c077251bb104e8140d0e8d61b2fe", func := "plummet/plummetlaw04.CrcNone", spec := "crcNone", unfollowed := true, recurses := true, apart := false }
def CrcNoneSaid : Prop := crcNoneRow.holds Try.pinned (OpenSpec.ofChange crcNoneSpec)

/-- ITS FALSE NEIGHBOUR: 'it returns false'. Refute it at one input. -/
def crcNoneWrong : ChangeSpec := { name := "crcNone", fn := fun _ => fun
  | [d] => { results := [.lit (.bool false)], args := [d] }
  | _ => none }
def CrcNoneWrongFalsely : Prop := crcNoneRow.holds Try.pinned (OpenSpec.ofChange crcNoneWrong)

/- THE SECOND FORM. 'bulk': how many values and letters a reading holds, each counted each time it is reached (what is shared counts as often as it is met; a slice's spare places count too). A statement '..UptoSaid' is the law's where the arguments, and the package variables that the reading takes, are together of bulk at most 1048576: NARROWER than '..Said'. Prove '..Said' where nothing that the law and all that it calls make is longer than what came in: it says more and counts as full. Else prove '..UptoSaid'. A law counts once. -/
mutual
def uptoBulk {H : Type} : DataW H → Nat
  | .lit (.string bytes) => bytes.length + 1
  | .lit _ => 1
  | .nil => 1
  | .ptr d => uptoBulk d + 1
  | .slice elems spare => uptoBulkAll elems + uptoBulkAll spare + 1
  | .agg parts => uptoBulkAll parts + 1
  | .iface _ d => uptoBulk d + 1
  | .map entries => uptoBulkEntries entries + 1
  | .held _ => 1
def uptoBulkAll {H : Type} : List (DataW H) → Nat
  | [] => 0
  | d :: r => uptoBulk d + uptoBulkAll r
def uptoBulkEntries {H : Type} : List (Lit × DataW H) → Nat
  | [] => 0
  | x :: r => uptoBulkEntry x + uptoBulkEntries r
def uptoBulkEntry {H : Type} : Lit × DataW H → Nat
  | (.string bytes, d) => bytes.length + uptoBulk d + 1
  | (_, d) => uptoBulk d + 1
 end
def uptoSmall : (H : Type) → List (DataW H) → Bool := fun _ ds => decide (uptoBulkAll ds ≤ 1048576)
def OpenSpec.upto (s : _root_.Go.ChangeSpec) : _root_.Go.OpenSpec := { _root_.Go.OpenSpec.ofChange s with cond := some uptoSmall }

/-- 'plummetlaw04.CrcChecks', WHERE WHAT IT READS IS OF BULK AT MOST 1048576: true; the input reads as it did. -/
def crcChecksUptoRow : OpenClaim := { program := "ytcpicgjelohhlaa", sum := "81d46b5201ab3bf6b82ce3ea199350c8d159c077251bb104e8140d0e8d61b2fe", func := "plummet/plummetlaw04.CrcChecks", spec := "crcChecks", unfollowed := true, recurses := true, apart := false, narrowed := true }
def CrcChecksUptoSaid : Prop := crcChecksUptoRow.holds Try.pinned (OpenSpec.upto crcChecksSpec)

/-- 'plummetlaw04.CrcTurned', WHERE WHAT IT READS IS OF BULK AT MOST 1048576: true; the input reads as it did. -/
def crcTurnedUptoRow : OpenClaim := { program := "ytcpicgjelohhlaa", sum := "81d46b5201ab3bf6b82ce3ea199350c8d159c077251bb104e8140d0e8d61b2fe", func := "plummet/plummetlaw04.CrcTurned", spec := "crcTurned", unfollowed := true, recurses := true, apart := false, narrowed := true }
def CrcTurnedUptoSaid : Prop := crcTurnedUptoRow.holds Try.pinned (OpenSpec.upto crcTurnedSpec)

/-- 'plummetlaw21.MixOf', WHERE WHAT IT READS IS OF BULK AT MOST 1048576: true; the input reads as it did. -/
def mixOfUptoRow : OpenClaim := { program := "ytcpicgjelohhlaa", sum := "81d46b5201ab3bf6b82ce3ea199350c8d159c077251bb104e8140d0e8d61b2fe", func := "plummet/plummetlaw21.MixOf", spec := "mixOf", unfollowed := true, recurses := true, apart := false, narrowed := true }
def MixOfUptoSaid : Prop := mixOfUptoRow.holds Try.pinned (OpenSpec.upto mixOfSpec)

/-- 'plummetlaw21.MixApart', WHERE WHAT IT READS IS OF BULK AT MOST 1048576: true; the input reads as it did. -/
def mixApartUptoRow : OpenClaim := { program := "ytcpicgjelohhlaa", sum := "81d46b5201ab3bf6b82ce3ea199350c8d159c077251bb104e8140d0e8d61b2fe", func := "plummet/plummetlaw21.MixApart", spec := "mixApart", unfollowed := true, recurses := true, apart := false, narrowed := true }
def MixApartUptoSaid : Prop := mixApartUptoRow.holds Try.pinned (OpenSpec.upto mixApartSpec)

/-- 'plummetlaw21.MixSpread', WHERE WHAT IT READS IS OF BULK AT MOST 1048576: true; the input reads as it did. -/
def mixSpreadUptoRow : OpenClaim := { program := "ytcpicgjelohhlaa", sum := "81d46b5201ab3bf6b82ce3ea199350c8d159c077251bb104e8140d0e8d61b2fe", func := "plummet/plummetlaw21.MixSpread", spec := "mixSpread", unfollowed := true, recurses := true, apart := false, narrowed := true }
def MixSpreadUptoSaid : Prop := mixSpreadUptoRow.holds Try.pinned (OpenSpec.upto mixSpreadSpec)

/-- 'plummetlaw04.CrcParts', WHERE WHAT IT READS IS OF BULK AT MOST 1048576: true; the input reads as it did. -/
def crcPartsUptoRow : OpenClaim := { program := "ytcpicgjelohhlaa", sum := "81d46b5201ab3bf6b82ce3ea199350c8d159c077251bb104e8140d0e8d61b2fe", func := "plummet/plummetlaw04.CrcParts", spec := "crcParts", unfollowed := true, recurses := true, apart := false, narrowed := true }
def CrcPartsUptoSaid : Prop := crcPartsUptoRow.holds Try.pinned (OpenSpec.upto crcPartsSpec)

/-- 'plummetlaw04.CrcNone', WHERE WHAT IT READS IS OF BULK AT MOST 1048576: true; the input reads as it did. -/
def crcNoneUptoRow : OpenClaim := { program := "ytcpicgjelohhlaa", sum := "81d46b5201ab3bf6b82ce3ea199350c8d159c077251bb104e8140d0e8d61b2fe", func := "plummet/plummetlaw04.CrcNone", spec := "crcNone", unfollowed := true, recurses := true, apart := false, narrowed := true }
def CrcNoneUptoSaid : Prop := crcNoneUptoRow.holds Try.pinned (OpenSpec.upto crcNoneSpec)

end Rows
end Go.Proofs.Ytcpicgjelohhlaa
