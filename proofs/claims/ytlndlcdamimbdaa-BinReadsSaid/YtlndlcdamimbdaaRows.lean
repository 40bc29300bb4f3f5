/-
  No cell of these rows narrows 'for every input' (looked for: loops, veiled, ifaces, maps, wideKeys, modest, calm, conditions, laid).
  DERIVED. THE GIVEN ROWS OF THIS SEAT. 11 by the template 'for every input the law returns true; each argument reads behind the call as it read before'; 0 by the template 'total and deterministic' (their statements: YtlndlcdamimbdaaTotals.lean).
  GIVEN WITH THE SEED: the statements are not yours to turn. If you find one false, say at which input.
  Laid BY PROGRAM, IN A SANDBOX (cutbox-rows.mjs): the forced cells as the released guide's own fill.sh prints them over the translation f7338bac0eb82d21… (all of the seat's roots in one cut). By AI agents, Wed Nov 11 2026. No macro, syntax, notation, axiom, sorry.
-/
import Derived.Test.YtlndlcdamimbdaaChecked
import GoSem.Claim
import GoSem.ClaimJoined
import GoSem.ClaimMapViews
import Derived.JoinedTies
import Derived.KernelRfl
namespace Go.Proofs.Ytlndlcdamimbdaa
/- THE CELL 'sum', in the pinned program and in every row, IS THE sha256 OF THE DUMP (.gsa) THAT YtlndlcdamimbdaaProg.lean LOADS. Nothing in Lean hashes anything: it is a label: what it is worth is what the hold of that sum in a sandbox is worth. -/
noncomputable def Try.pinned : Pinned := { name := "ytlndlcdamimbdaa", sum := "f7338bac0eb82d2147d6589c59f46deea2e88c37ba31a61fd9c35e666d27faf2", checked := Try.checked }
namespace Rows
def none {H : Type} : Left H := { results := [], args := [] }

/-- 'plummetlaw26.BudgetTakes': WHATEVER THE INPUT: true; the input reads as it did. -/
def budgetTakesSpec : ChangeSpec := { name := "budgetTakes", fn := fun _ => fun
  | [d1, d2] => { results := [.lit (.bool true)], args := [d1, d2] }
  | _ => none }
def budgetTakesRow : OpenClaim := { program := "ytlndlcdamimbdaa", sum := "f7338bac0eb82d2147d6589c59f46deea2e88c37ba31a61fd9c35e666d27faf2", func := "plummet/plummetlaw26.BudgetTakes", spec := "budgetTakes", apart := false }
def BudgetTakesSaid : Prop := budgetTakesRow.holds Try.pinned (OpenSpec.ofChange budgetTakesSpec)

/-- ITS FALSE NEIGHBOUR: 'it returns false'. Refute it at one input. -/
def budgetTakesWrong : ChangeSpec := { name := "budgetTakes", fn := fun _ => fun
  | [d1, d2] => { results := [.lit (.bool false)], args := [d1, d2] }
  | _ => none }
def BudgetTakesWrongFalsely : Prop := budgetTakesRow.holds Try.pinned (OpenSpec.ofChange budgetTakesWrong)

/-- 'plummetlaw22.SlotOf': WHATEVER THE INPUT: true; the input reads as it did. -/
def slotOfSpec : ChangeSpec := { name := "slotOf", fn := fun _ => fun
  | [d1, d2, d3, d4, d5] => { results := [.lit (.bool true)], args := [d1, d2, d3, d4, d5] }
  | _ => none }
def slotOfRow : OpenClaim := { program := "ytlndlcdamimbdaa", sum := "f7338bac0eb82d2147d6589c59f46deea2e88c37ba31a61fd9c35e666d27faf2", func := "plummet/plummetlaw22.SlotOf", spec := "slotOf", apart := false }
def SlotOfSaid : Prop := slotOfRow.holds Try.pinned (OpenSpec.ofChange slotOfSpec)

/-- ITS FALSE NEIGHBOUR: 'it returns false'. Refute it at one input. -/
def slotOfWrong : ChangeSpec := { name := "slotOf", fn := fun _ => fun
  | [d1, d2, d3, d4, d5] => { results := [.lit (.bool false)], args := [d1, d2, d3, d4, d5] }
  | _ => none }
def SlotOfWrongFalsely : Prop := slotOfRow.holds Try.pinned (OpenSpec.ofChange slotOfWrong)

/-- 'plummetlaw22.SlotWindow': WHATEVER THE INPUT: true; the input reads as it did. -/
def slotWindowSpec : ChangeSpec := { name := "slotWindow", fn := fun _ => fun
  | [d1, d2, d3, d4] => { results := [.lit (.bool true)], args := [d1, d2, d3, d4] }
  | _ => none }
def slotWindowRow : OpenClaim := { program := "ytlndlcdamimbdaa", sum := "f7338bac0eb82d2147d6589c59f46deea2e88c37ba31a61fd9c35e666d27faf2", func := "plummet/plummetlaw22.SlotWindow", spec := "slotWindow", apart := false }
def SlotWindowSaid : Prop := slotWindowRow.holds Try.pinned (OpenSpec.ofChange slotWindowSpec)

/-- ITS FALSE NEIGHBOUR: 'it returns false'. Refute it at one input. -/
def slotWindowWrong : ChangeSpec := { name := "slotWindow", fn := fun _ => fun
  | [d1, d2, d3, d4] => { results := [.lit (.bool false)], args := [d1, d2, d3, d4] }
  | _ => none }
def SlotWindowWrongFalsely : Prop := slotWindowRow.holds Try.pinned (OpenSpec.ofChange slotWindowWrong)

/-- 'plummetlaw26.BudgetParts': WHATEVER THE INPUT: true; the input reads as it did. -/
def budgetPartsSpec : ChangeSpec := { name := "budgetParts", fn := fun _ => fun
  | [d1, d2, d3] => { results := [.lit (.bool true)], args := [d1, d2, d3] }
  | _ => none }
def budgetPartsRow : OpenClaim := { program := "ytlndlcdamimbdaa", sum := "f7338bac0eb82d2147d6589c59f46deea2e88c37ba31a61fd9c35e666d27faf2", func := "plummet/plummetlaw26.BudgetParts", spec := "budgetParts", apart := false }
def BudgetPartsSaid : Prop := budgetPartsRow.holds Try.pinned (OpenSpec.ofChange budgetPartsSpec)

/-- ITS FALSE NEIGHBOUR: 'it returns false'. Refute it at one input. -/
def budgetPartsWrong : ChangeSpec := { name := "budgetParts", fn := fun _ => fun
  | [d1, d2, d3] => { results := [.lit (.bool false)], args := [d1, d2, d3] }
  | _ => none }
def BudgetPartsWrongFalsely : Prop := budgetPartsRow.holds Try.pinned (OpenSpec.ofChange budgetPartsWrong)

/-- 'plummetlaw26.BudgetNone': WHATEVER THE INPUT: true; the input reads as it did. -/
def budgetNoneSpec : ChangeSpec := { name := "budgetNone", fn := fun _ => fun
  | [d] => { results := [.lit (.bool true)], args := [d] }
  | _ => none }
def budgetNoneRow : OpenClaim := { program := "ytlndlcdamimbdaa", sum := "f7338bac0eb82d2147d6589c59f46deea2e88c37ba31a61fd9c35e666d27faf2", func := "plummet/plummetlaw26.BudgetNone", spec := "budgetNone", apart := false }
def BudgetNoneSaid : Prop := budgetNoneRow.holds Try.pinned (OpenSpec.ofChange budgetNoneSpec)

/-- ITS FALSE NEIGHBOUR: 'it returns false'. Refute it at one input. -/
def budgetNoneWrong : ChangeSpec := { name := "budgetNone", fn := fun _ => fun
  | [d] => { results := [.lit (.bool false)], args := [d] }
  | _ => none }
def BudgetNoneWrongFalsely : Prop := budgetNoneRow.holds Try.pinned (OpenSpec.ofChange budgetNoneWrong)

/-- 'plummetlaw03.BinWrites': WHATEVER THE INPUT: true; the input reads as it did. -/
def binWritesSpec : ChangeSpec := { name := "binWrites", fn := fun _ => fun
  | [d1, d2, d3] => { results := [.lit (.bool true)], args := [d1, d2, d3] }
  | _ => none }
def binWritesRow : OpenClaim := { program := "ytlndlcdamimbdaa", sum := "f7338bac0eb82d2147d6589c59f46deea2e88c37ba31a61fd9c35e666d27faf2", func := "plummet/plummetlaw03.BinWrites", spec := "binWrites", recurses := true, apart := false }
def BinWritesSaid : Prop := binWritesRow.holds Try.pinned (OpenSpec.ofChange binWritesSpec)

/-- ITS FALSE NEIGHBOUR: 'it returns false'. Refute it at one input. -/
def binWritesWrong : ChangeSpec := { name := "binWrites", fn := fun _ => fun
  | [d1, d2, d3] => { results := [.lit (.bool false)], args := [d1, d2, d3] }
  | _ => none }
def BinWritesWrongFalsely : Prop := binWritesRow.holds Try.pinned (OpenSpec.ofChange binWritesWrong)

/-- 'plummetlaw03.BinBack': WHATEVER THE INPUT: true; the input reads as it did. -/
def binBackSpec : ChangeSpec := { name := "binBack", fn := fun _ => fun
  | [d1, d2, d3] => { results := [.lit (.bool true)], args := [d1, d2, d3] }
  | _ => none }
def binBackRow : OpenClaim := { program := "ytlndlcdamimbdaa", sum := "f7338bac0eb82d2147d6589c59f46deea2e88c37ba31a61fd9c35e666d27faf2", func := "plummet/plummetlaw03.BinBack", spec := "binBack", apart := false }
def BinBackSaid : Prop := binBackRow.holds Try.pinned (OpenSpec.ofChange binBackSpec)

/-- ITS FALSE NEIGHBOUR: 'it returns false'. Refute it at one input. -/
def binBackWrong : ChangeSpec := { name := "binBack", fn := fun _ => fun
  | [d1, d2, d3] => { results := [.lit (.bool false)], args := [d1, d2, d3] }
  | _ => none }
def BinBackWrongFalsely : Prop := binBackRow.holds Try.pinned (OpenSpec.ofChange binBackWrong)

/-- 'plummetlaw03.BinReads': WHATEVER THE INPUT: true; the input reads as it did. -/
def binReadsSpec : ChangeSpec := { name := "binReads", fn := fun _ => fun
  | [d1, d2] => { results := [.lit (.bool true)], args := [d1, d2] }
  | _ => none }
def binReadsRow : OpenClaim := { program := "ytlndlcdamimbdaa", sum := "f7338bac0eb82d2147d6589c59f46deea2e88c37ba31a61fd9c35e666d27faf2", func := "plummet/plummetlaw03.BinReads", spec := "binReads", recurses := true, apart := false }
def BinReadsSaid : Prop := binReadsRow.holds Try.pinned (OpenSpec.ofChange binReadsSpec)

/-- ITS FALSE NEIGHBOUR: 'it returns false'. Refute it at one input. -/
def binReadsWrong : ChangeSpec := { name := "binReads", fn := fun _ => fun
  | [d1, d2] => { results := [.lit (.bool false)], args := [d1, d2] }
  | _ => none }
def BinReadsWrongFalsely : Prop := binReadsRow.holds Try.pinned (OpenSpec.ofChange binReadsWrong)

/-- 'plummetlaw03.BinNone': WHATEVER THE INPUT: true; the input reads as it did. -/
def binNoneSpec : ChangeSpec := { name := "binNone", fn := fun _ => fun
  | [d] => { results := [.lit (.bool true)], args := [d] }
  | _ => none }
def binNoneRow : OpenClaim := { program := "ytlndlcdamimbdaa", sum := "f7338bac0eb82d2147d6589c59f46deea2e88c37ba31a61fd9c35e666d27faf2", func := "plummet/plummetlaw03.BinNone", spec := "binNone", apart := false }
def BinNoneSaid : Prop := binNoneRow.holds Try.pinned (OpenSpec.ofChange binNoneSpec)

/-- ITS FALSE NEIGHBOUR: 'it returns false'. Refute it at one input. -/
def binNoneWrong : ChangeSpec := { name := "binNone", fn := fun _ => fun
  | [d] => { results := [.lit (.bool false)], args := [d] }
  | _ => none }
def BinNoneWrongFalsely : Prop := binNoneRow.holds Try.pinned (OpenSpec.ofChange binNoneWrong)

/-- 'plummetlaw22.SlotPacks': WHATEVER THE INPUT: true; the input reads as it did. -/
def slotPacksSpec : ChangeSpec := { name := "slotPacks", fn := fun _ => fun
  | [d] => { results := [.lit (.bool true)], args := [d] }
  | _ => none }
def slotPacksRow : OpenClaim := { program := "ytlndlcdamimbdaa", sum := "f7338bac0eb82d2147d6589c59f46deea2e88c37ba31a61fd9c35e666d27faf2", func := "plummet/plummetlaw22.SlotPacks", spec := "slotPacks", apart := false }
def SlotPacksSaid : Prop := slotPacksRow.holds Try.pinned (OpenSpec.ofChange slotPacksSpec)

/-- ITS FALSE NEIGHBOUR: 'it returns false'. Refute it at one input. -/
def slotPacksWrong : ChangeSpec := { name := "slotPacks", fn := fun _ => fun
  | [d] => { results := [.lit (.bool false)], args := [d] }
  | _ => none }
def SlotPacksWrongFalsely : Prop := slotPacksRow.holds Try.pinned (OpenSpec.ofChange slotPacksWrong)

/-- 'plummetlaw22.SlotUnpacks': WHATEVER THE INPUT: true; the input reads as it did. -/
def slotUnpacksSpec : ChangeSpec := { name := "slotUnpacks", fn := fun _ => fun
  | [d] => { results := [.lit (.bool true)], args := [d] }
  | _ => none }
def slotUnpacksRow : OpenClaim := { program := "ytlndlcdamimbdaa", sum := "f7338bac0eb82d2147d6589c59f46deea2e88c37ba31a61fd9c35e666d27faf2", func := "plummet/plummetlaw22.SlotUnpacks", spec := "slotUnpacks", apart := false }
def SlotUnpacksSaid : Prop := slotUnpacksRow.holds Try.pinned (OpenSpec.ofChange slotUnpacksSpec)

/-- ITS FALSE NEIGHBOUR: 'it returns false'. Refute it at one input. -/
def slotUnpacksWrong : ChangeSpec := { name := "slotUnpacks", fn := fun _ => fun
  | [d] => { results := [.lit (.bool false)], args := [d] }
  | _ => none }
def SlotUnpacksWrongFalsely : Prop := slotUnpacksRow.holds Try.pinned (OpenSpec.ofChange slotUnpacksWrong)

/- THE SECOND FORM. 'bulk': how many values and letters a reading holds, each counted each time it is reached (what is shared counts as often as it is met; a slice's spare places count too). A statement '..UptoSaid' is the law's where the arguments, and the package variables that the reading takes, are together of bulk at most 1048576: NARROWER than '..Said'. Prove '..Said' where nothing that the law and all that it calls make is longer than what came in: it says more and counts as full. Else prove '..UptoSaid'. A law counts once. -/
mutual
def uptoBulk {H : Type} : DataW H → Nat
  | .lit (.string bytes) => bytes.length + 1
  | .lit _ => 1
  | .nil => 1
  | .ptr d => uptoBulk d + 1
  | .slice elems spare => uptoBulkAll elems + uptoBulkAll spare + 1
  | .agg parts => uptoBulkAll parts + 1
  | .iface _ d => uptoBulk d + 1
  | .map entries => uptoBulkEntries entries + 1
  | .held _ => 1
def uptoBulkAll {H : Type} : List (DataW H) → Nat
  | [] => 0
  | d :: r => uptoBulk d + uptoBulkAll r
def uptoBulkEntries {H : Type} : List (Lit × DataW H) → Nat
  | [] => 0
  | x :: r => uptoBulkEntry x + uptoBulkEntries r
def uptoBulkEntry {H : Type} : Lit × DataW H → Nat
  | (.string bytes, d) => bytes.length + uptoBulk d + 1
  | (_, d) => uptoBulk d + 1
 end
def uptoSmall : (H : Type) → List (DataW H) → Bool := fun _ ds => decide (uptoBulkAll ds ≤ 1048576)
def OpenSpec.upto (s : _root_.Go.ChangeSpec) : _root_.Go.OpenSpec := { _root_.Go.OpenSpec.ofChange s with cond := some uptoSmall }

/-- 'plummetlaw26.BudgetTakes', WHERE WHAT IT READS IS OF BULK AT MOST 1048576: true; the input reads as it did. -/
def budgetTakesUptoRow : OpenClaim := { program := "ytlndlcdamimbdaa", sum := "f7338bac0eb82d2147d6589c59f46deea2e88c37ba31a61fd9c35e666d27faf2", func := "plummet/plummetlaw26.BudgetTakes", spec := "budgetTakes", apart := false, narrowed := true }
def BudgetTakesUptoSaid : Prop := budgetTakesUptoRow.holds Try.pinned (OpenSpec.upto budgetTakesSpec)

/-- 'plummetlaw22.SlotOf', WHERE WHAT IT READS IS OF BULK AT MOST 1048576: true; the input reads as it did. -/
def slotOfUptoRow : OpenClaim := { program := "ytlndlcdamimbdaa", sum := "f7338bac0eb82d2147d6589c59f46deea2e88c37ba31a61fd9c35e666d27faf2", func := "plummet/plummetlaw22.SlotOf", spec := "slotOf", apart := false, narrowed := true }
def SlotOfUptoSaid : Prop := slotOfUptoRow.holds Try.pinned (OpenSpec.upto slotOfSpec)

/-- 'plummetlaw22.SlotWindow', WHERE WHAT IT READS IS OF BULK AT MOST 1048576: true; the input reads as it did. -/
def slotWindowUptoRow : OpenClaim := { program := "ytlndlcdamimbdaa", sum := "f7338bac0eb82d2147d6589c59f46deea2e88c37ba31a61fd9c35e666d27faf2", func := "plummet/plummetlaw22.SlotWindow", spec := "slotWindow", apart := false, narrowed := true }
def SlotWindowUptoSaid : Prop := slotWindowUptoRow.holds Try.pinned (OpenSpec.upto slotWindowSpec)

/-- 'plummetlaw26.BudgetParts', WHERE WHAT IT READS IS OF BULK AT MOST 1048576: true; the input reads as it did. -/
def budgetPartsUptoRow : OpenClaim := { program := "ytlndlcdamimbdaa", sum := "f7338bac0eb82d2147d6589c59f46deea2e88c37ba31a61fd9c35e666d27faf2", func := "plummet/plummetlaw26.BudgetParts", spec := "budgetParts", apart := false, narrowed := true }
def BudgetPartsUptoSaid : Prop := budgetPartsUptoRow.holds Try.pinned (OpenSpec.upto budgetPartsSpec)

/-- 'plummetlaw26.BudgetNone', WHERE WHAT IT READS IS OF BULK AT MOST 1048576: true; the input reads as it did. -/
def budgetNoneUptoRow : OpenClaim := { program := "ytlndlcdamimbdaa", sum := "f7338bac0eb82d2147d6589c59f46deea2e88c37ba31a61fd9c35e666d27faf2", func := "plummet/plummetlaw26.BudgetNone", spec := "budgetNone", apart := false, narrowed := true }
def BudgetNoneUptoSaid : Prop := budgetNoneUptoRow.holds Try.pinned (OpenSpec.upto budgetNoneSpec)

/-- 'plummetlaw03.BinWrites', WHERE WHAT IT READS IS OF BULK AT MOST 1048576: true; the input reads as it did. -/
def binWritesUptoRow : OpenClaim := { program := "ytlndlcdamimbdaa", sum := "f7338bac0eb82d2147d6589c59f46deea2e88c37ba31a61fd9c35e666d27faf2", func := "plummet/plummetlaw03.BinWrites", spec := "binWrites", recurses := true, apart := false, narrowed := true }
def BinWritesUptoSaid : Prop := binWritesUptoRow.holds Try.pinned (OpenSpec.upto binWritesSpec)

/-- 'plummetlaw03.BinBack', WHERE WHAT IT READS IS OF BULK AT MOST 1048576: true; the input reads as it did. -/
def binBackUptoRow : OpenClaim := { program := "ytlndlcdamimbdaa", sum := "f7338bac0eb82d2147d6589c59f46deea2e88c37ba31a61fd9c35e666d27faf2", func := "plummet/plummetlaw03.BinBack", spec := "binBack", apart := false, narrowed := true }
def BinBackUptoSaid : Prop := binBackUptoRow.holds Try.pinned (OpenSpec.upto binBackSpec)

/-- 'plummetlaw03.BinReads', WHERE WHAT IT READS IS OF BULK AT MOST 1048576: true; the input reads as it did. -/
def binReadsUptoRow : OpenClaim := { program := "ytlndlcdamimbdaa", sum := "f7338bac0eb82d2147d6589c59f46deea2e88c37ba31a61fd9c35e666d27faf2", func := "plummet/plummetlaw03.BinReads", spec := "binReads", recurses := true, apart := false, narrowed := true }
def BinReadsUptoSaid : Prop := binReadsUptoRow.holds Try.pinned (OpenSpec.upto binReadsSpec)

/-- 'plummetlaw03.BinNone', WHERE WHAT IT READS IS OF BULK AT MOST 1048576: true; the input reads as it did. -/
def binNoneUptoRow : OpenClaim := { program := "ytlndlcdamimbdaa", sum := "f7338bac0eb82d2147d6589c59f46deea2e88c37ba31a61fd9c35e666d27faf2", func := "plummet/plummetlaw03.BinNone", spec := "binNone", apart := false, narrowed := true }
def BinNoneUptoSaid : Prop := binNoneUptoRow.holds Try.pinned (OpenSpec.upto binNoneSpec)

/-- 'plummetlaw22.SlotPacks', WHERE WHAT IT READS IS OF BULK AT MOST 1048576: true; the input reads as it did. -/
def slotPacksUptoRow : OpenClaim := { program := "ytlndlcdamimbdaa", sum := "f7338bac0eb82d2147d6589c59f46deea2e88c37ba31a61fd9c35e666d27faf2", func := "plummet/plummetlaw22.SlotPacks", spec := "slotPacks", apart := false, narrowed := true }
def SlotPacksUptoSaid : Prop := slotPacksUptoRow.holds Try.pinned (OpenSpec.upto slotPacksSpec)

/-- 'plummetlaw22.SlotUnpacks', WHERE WHAT IT READS IS OF BULK AT MOST 1048576: true; the input reads as it did. -/
def slotUnpacksUptoRow : OpenClaim := { program := "ytlndlcdamimbdaa", sum := "f7338bac0eb82d2147d6589c59f46deea2e88c37ba31a61fd9c35e666d27faf2", func := "plummet/plummetlaw22.SlotUnpacks", spec := "slotUnpacks", apart := false, narrowed := true }
def SlotUnpacksUptoSaid : Prop := slotUnpacksUptoRow.holds Try.pinned (OpenSpec.upto slotUnpacksSpec)

end Rows
end Go.Proofs.Ytlndlcdamimbdaa
