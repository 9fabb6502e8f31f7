/-
  No cell of these rows narrows 'for every input' (looked for: loops, veiled, ifaces, maps, wideKeys, modest, calm, conditions, laid).
  DERIVED. THE GIVEN ROWS OF THIS SEAT. 10 by the template 'for every input the law returns true; each argument reads behind the call as it read before'; 0 by the template 'total and deterministic' (their statements: YthcpogkffjnefaaTotals.lean).
  GIVEN WITH THE SEED: the statements are not yours to turn. If you find one false, say at which input.
  Laid BY PROGRAM, IN A SANDBOX (cutbox-rows.mjs): the forced cells as the released guide's own fill.sh prints them over the translation 7d5a8412bb9b7c3b… (all of the seat's roots in one cut). By AI agents, Wed Nov 11 2026. No macro, syntax, notation, axiom, sorry.
-/
import Derived.Test.YthcpogkffjnefaaChecked
import GoSem.Claim
import GoSem.ClaimJoined
import GoSem.ClaimMapViews
import Derived.JoinedTies
import Derived.KernelRfl
namespace Go.Proofs.Ythcpogkffjnefaa
/- THE CELL 'sum', in the pinned program and in every row, IS THE sha256 OF THE DUMP (.gsa) THAT YthcpogkffjnefaaProg.lean LOADS. Nothing in Lean hashes anything: it is a label: what it is worth is what the hold of that sum in a sandbox is worth. -/
noncomputable def Try.pinned : Pinned := { name := "ythcpogkffjnefaa", sum := "7d5a8412bb9b7c3b8e082697dc5b6f22c9d1131f67002ee861710df323dfbbba", checked := Try.checked }
namespace Rows
def none {H : Type} : Left H := { results := [], args := [] }

/-- 'laws.FnExactTorn': WHATEVER THE INPUT: true; the input reads as it did. -/
def fnExactTornSpec : ChangeSpec := { name := "fnExactTorn", fn := fun _ => fun
  | [d1, d2] => { results := [.lit (.bool true)], args := [d1, d2] }
  | _ => none }
def fnExactTornRow : OpenClaim := { program := "ythcpogkffjnefaa", sum := "7d5a8412bb9b7c3b8e082697dc5b6f22c9d1131f67002ee861710df323dfbbba", func := "loop.example/g00116/laws.FnExactTorn", spec := "fnExactTorn", apart := false }
def FnExactTornSaid : Prop := fnExactTornRow.holds Try.pinned (OpenSpec.ofChange fnExactTornSpec)

/-- ITS FALSE NEIGHBOUR: 'it returns false'. Refute it at one input. -/
def fnExactTornWrong : ChangeSpec := { name := "fnExactTorn", fn := fun _ => fun
  | [d1, d2] => { results := [.lit (.bool false)], args := [d1, d2] }
  | _ => none }
def FnExactTornWrongFalsely : Prop := fnExactTornRow.holds Try.pinned (OpenSpec.ofChange fnExactTornWrong)

/-- 'laws.FnExactRecord': WHATEVER THE INPUT: true; the input reads as it did. -/
def fnExactRecordSpec : ChangeSpec := { name := "fnExactRecord", fn := fun _ => fun
  | [d] => { results := [.lit (.bool true)], args := [d] }
  | _ => none }
def fnExactRecordRow : OpenClaim := { program := "ythcpogkffjnefaa", sum := "7d5a8412bb9b7c3b8e082697dc5b6f22c9d1131f67002ee861710df323dfbbba", func := "loop.example/g00116/laws.FnExactRecord", spec := "fnExactRecord", apart := false }
def FnExactRecordSaid : Prop := fnExactRecordRow.holds Try.pinned (OpenSpec.ofChange fnExactRecordSpec)

/-- ITS FALSE NEIGHBOUR: 'it returns false'. Refute it at one input. -/
def fnExactRecordWrong : ChangeSpec := { name := "fnExactRecord", fn := fun _ => fun
  | [d] => { results := [.lit (.bool false)], args := [d] }
  | _ => none }
def FnExactRecordWrongFalsely : Prop := fnExactRecordRow.holds Try.pinned (OpenSpec.ofChange fnExactRecordWrong)

/-- 'laws.FnExactRowText': WHATEVER THE INPUT: true; the input reads as it did. -/
def fnExactRowTextSpec : ChangeSpec := { name := "fnExactRowText", fn := fun _ => fun
  | [d] => { results := [.lit (.bool true)], args := [d] }
  | _ => none }
def fnExactRowTextRow : OpenClaim := { program := "ythcpogkffjnefaa", sum := "7d5a8412bb9b7c3b8e082697dc5b6f22c9d1131f67002ee861710df323dfbbba", func := "loop.example/g00116/laws.FnExactRowText", spec := "fnExactRowText", apart := false }
def FnExactRowTextSaid : Prop := fnExactRowTextRow.holds Try.pinned (OpenSpec.ofChange fnExactRowTextSpec)

/-- ITS FALSE NEIGHBOUR: 'it returns false'. Refute it at one input. -/
def fnExactRowTextWrong : ChangeSpec := { name := "fnExactRowText", fn := fun _ => fun
  | [d] => { results := [.lit (.bool false)], args := [d] }
  | _ => none }
def FnExactRowTextWrongFalsely : Prop := fnExactRowTextRow.holds Try.pinned (OpenSpec.ofChange fnExactRowTextWrong)

/-- 'laws.FnExactAppend': WHATEVER THE INPUT: true; the input reads as it did. -/
def fnExactAppendSpec : ChangeSpec := { name := "fnExactAppend", fn := fun _ => fun
  | [d1, d2] => { results := [.lit (.bool true)], args := [d1, d2] }
  | _ => none }
def fnExactAppendRow : OpenClaim := { program := "ythcpogkffjnefaa", sum := "7d5a8412bb9b7c3b8e082697dc5b6f22c9d1131f67002ee861710df323dfbbba", func := "loop.example/g00116/laws.FnExactAppend", spec := "fnExactAppend", apart := false }
def FnExactAppendSaid : Prop := fnExactAppendRow.holds Try.pinned (OpenSpec.ofChange fnExactAppendSpec)

/-- ITS FALSE NEIGHBOUR: 'it returns false'. Refute it at one input. -/
def fnExactAppendWrong : ChangeSpec := { name := "fnExactAppend", fn := fun _ => fun
  | [d1, d2] => { results := [.lit (.bool false)], args := [d1, d2] }
  | _ => none }
def FnExactAppendWrongFalsely : Prop := fnExactAppendRow.holds Try.pinned (OpenSpec.ofChange fnExactAppendWrong)

/-- 'laws.FnExactReadRow': WHATEVER THE INPUT: true; the input reads as it did. -/
def fnExactReadRowSpec : ChangeSpec := { name := "fnExactReadRow", fn := fun _ => fun
  | [d] => { results := [.lit (.bool true)], args := [d] }
  | _ => none }
def fnExactReadRowRow : OpenClaim := { program := "ythcpogkffjnefaa", sum := "7d5a8412bb9b7c3b8e082697dc5b6f22c9d1131f67002ee861710df323dfbbba", func := "loop.example/g00116/laws.FnExactReadRow", spec := "fnExactReadRow", apart := false }
def FnExactReadRowSaid : Prop := fnExactReadRowRow.holds Try.pinned (OpenSpec.ofChange fnExactReadRowSpec)

/-- ITS FALSE NEIGHBOUR: 'it returns false'. Refute it at one input. -/
def fnExactReadRowWrong : ChangeSpec := { name := "fnExactReadRow", fn := fun _ => fun
  | [d] => { results := [.lit (.bool false)], args := [d] }
  | _ => none }
def FnExactReadRowWrongFalsely : Prop := fnExactReadRowRow.holds Try.pinned (OpenSpec.ofChange fnExactReadRowWrong)

/-- 'laws.FnExactTidy': WHATEVER THE INPUT: true; the input reads as it did. -/
def fnExactTidySpec : ChangeSpec := { name := "fnExactTidy", fn := fun _ => fun
  | [d] => { results := [.lit (.bool true)], args := [d] }
  | _ => none }
def fnExactTidyRow : OpenClaim := { program := "ythcpogkffjnefaa", sum := "7d5a8412bb9b7c3b8e082697dc5b6f22c9d1131f67002ee861710df323dfbbba", func := "loop.example/g00116/laws.FnExactTidy", spec := "fnExactTidy", apart := false }
def FnExactTidySaid : Prop := fnExactTidyRow.holds Try.pinned (OpenSpec.ofChange fnExactTidySpec)

/-- ITS FALSE NEIGHBOUR: 'it returns false'. Refute it at one input. -/
def fnExactTidyWrong : ChangeSpec := { name := "fnExactTidy", fn := fun _ => fun
  | [d] => { results := [.lit (.bool false)], args := [d] }
  | _ => none }
def FnExactTidyWrongFalsely : Prop := fnExactTidyRow.holds Try.pinned (OpenSpec.ofChange fnExactTidyWrong)

/-- 'laws.FnExactLast': WHATEVER THE INPUT: true; the input reads as it did. -/
def fnExactLastSpec : ChangeSpec := { name := "fnExactLast", fn := fun _ => fun
  | [d] => { results := [.lit (.bool true)], args := [d] }
  | _ => none }
def fnExactLastRow : OpenClaim := { program := "ythcpogkffjnefaa", sum := "7d5a8412bb9b7c3b8e082697dc5b6f22c9d1131f67002ee861710df323dfbbba", func := "loop.example/g00116/laws.FnExactLast", spec := "fnExactLast", apart := false }
def FnExactLastSaid : Prop := fnExactLastRow.holds Try.pinned (OpenSpec.ofChange fnExactLastSpec)

/-- ITS FALSE NEIGHBOUR: 'it returns false'. Refute it at one input. -/
def fnExactLastWrong : ChangeSpec := { name := "fnExactLast", fn := fun _ => fun
  | [d] => { results := [.lit (.bool false)], args := [d] }
  | _ => none }
def FnExactLastWrongFalsely : Prop := fnExactLastRow.holds Try.pinned (OpenSpec.ofChange fnExactLastWrong)

/-- 'laws.FnExactRecords': WHATEVER THE INPUT: true; the input reads as it did. -/
def fnExactRecordsSpec : ChangeSpec := { name := "fnExactRecords", fn := fun _ => fun
  | [d] => { results := [.lit (.bool true)], args := [d] }
  | _ => none }
def fnExactRecordsRow : OpenClaim := { program := "ythcpogkffjnefaa", sum := "7d5a8412bb9b7c3b8e082697dc5b6f22c9d1131f67002ee861710df323dfbbba", func := "loop.example/g00116/laws.FnExactRecords", spec := "fnExactRecords", apart := false }
def FnExactRecordsSaid : Prop := fnExactRecordsRow.holds Try.pinned (OpenSpec.ofChange fnExactRecordsSpec)

/-- ITS FALSE NEIGHBOUR: 'it returns false'. Refute it at one input. -/
def fnExactRecordsWrong : ChangeSpec := { name := "fnExactRecords", fn := fun _ => fun
  | [d] => { results := [.lit (.bool false)], args := [d] }
  | _ => none }
def FnExactRecordsWrongFalsely : Prop := fnExactRecordsRow.holds Try.pinned (OpenSpec.ofChange fnExactRecordsWrong)

/-- 'laws.FnTorn': WHATEVER THE INPUT: true; the input reads as it did. -/
def fnTornSpec : ChangeSpec := { name := "fnTorn", fn := fun _ => fun
  | [d] => { results := [.lit (.bool true)], args := [d] }
  | _ => none }
def fnTornRow : OpenClaim := { program := "ythcpogkffjnefaa", sum := "7d5a8412bb9b7c3b8e082697dc5b6f22c9d1131f67002ee861710df323dfbbba", func := "loop.example/g00116/laws.FnTorn", spec := "fnTorn", apart := false }
def FnTornSaid : Prop := fnTornRow.holds Try.pinned (OpenSpec.ofChange fnTornSpec)

/-- ITS FALSE NEIGHBOUR: 'it returns false'. Refute it at one input. -/
def fnTornWrong : ChangeSpec := { name := "fnTorn", fn := fun _ => fun
  | [d] => { results := [.lit (.bool false)], args := [d] }
  | _ => none }
def FnTornWrongFalsely : Prop := fnTornRow.holds Try.pinned (OpenSpec.ofChange fnTornWrong)

/-- 'laws.FnJournal': WHATEVER THE INPUT: true; the input reads as it did. -/
def fnJournalSpec : ChangeSpec := { name := "fnJournal", fn := fun _ => fun
  | [d] => { results := [.lit (.bool true)], args := [d] }
  | _ => none }
def fnJournalRow : OpenClaim := { program := "ythcpogkffjnefaa", sum := "7d5a8412bb9b7c3b8e082697dc5b6f22c9d1131f67002ee861710df323dfbbba", func := "loop.example/g00116/laws.FnJournal", spec := "fnJournal", apart := false }
def FnJournalSaid : Prop := fnJournalRow.holds Try.pinned (OpenSpec.ofChange fnJournalSpec)

/-- ITS FALSE NEIGHBOUR: 'it returns false'. Refute it at one input. -/
def fnJournalWrong : ChangeSpec := { name := "fnJournal", fn := fun _ => fun
  | [d] => { results := [.lit (.bool false)], args := [d] }
  | _ => none }
def FnJournalWrongFalsely : Prop := fnJournalRow.holds Try.pinned (OpenSpec.ofChange fnJournalWrong)

/- THE SECOND FORM. 'bulk': how many values and letters a reading holds, each counted each time it is reached (what is shared counts as often as it is met; a slice's spare places count too). A statement '..UptoSaid' is the law's where the arguments, and the package variables that the reading takes, are together of bulk at most 1048576: NARROWER than '..Said'. Prove '..Said' where nothing that the law and all that it calls make is longer than what came in: it says more and counts as full. Else prove '..UptoSaid'. A law counts once. -/
mutual
def uptoBulk {H : Type} : DataW H → Nat
  | .lit (.string bytes) => bytes.length + 1
  | .lit _ => 1
  | .nil => 1
  | .ptr d => uptoBulk d + 1
  | .slice elems spare => uptoBulkAll elems + uptoBulkAll spare + 1
  | .agg parts => uptoBulkAll parts + 1
  | .iface _ d => uptoBulk d + 1
  | .map entries => uptoBulkEntries entries + 1
  | .held _ => 1
def uptoBulkAll {H : Type} : List (DataW H) → Nat
  | [] => 0
  | d :: r => uptoBulk d + uptoBulkAll r
def uptoBulkEntries {H : Type} : List (Lit × DataW H) → Nat
  | [] => 0
  | x :: r => uptoBulkEntry x + uptoBulkEntries r
def uptoBulkEntry {H : Type} : Lit × DataW H → Nat
  | (.string bytes, d) => bytes.length + uptoBulk d + 1
  | (_, d) => uptoBulk d + 1
 end
def uptoSmall : (H : Type) → List (DataW H) → Bool := fun _ ds => decide (uptoBulkAll ds ≤ 1048576)
def OpenSpec.upto (s : _root_.Go.ChangeSpec) : _root_.Go.OpenSpec := { _root_.Go.OpenSpec.ofChange s with cond := some uptoSmall }

/-- 'laws.FnExactTorn', WHERE WHAT IT READS IS OF BULK AT MOST 1048576: true; the input reads as it did. -/
def fnExactTornUptoRow : OpenClaim := { program := "ythcpogkffjnefaa", sum := "7d5a8412bb9b7c3b8e082697dc5b6f22c9d1131f67002ee861710df323dfbbba", func := "loop.example/g00116/laws.FnExactTorn", spec := "fnExactTorn", apart := false, narrowed := true }
def FnExactTornUptoSaid : Prop := fnExactTornUptoRow.holds Try.pinned (OpenSpec.upto fnExactTornSpec)

/-- 'laws.FnExactRecord', WHERE WHAT IT READS IS OF BULK AT MOST 1048576: true; the input reads as it did. -/
def fnExactRecordUptoRow : OpenClaim := { program := "ythcpogkffjnefaa", sum := "7d5a8412bb9b7c3b8e082697dc5b6f22c9d1131f67002ee861710df323dfbbba", func := "loop.example/g00116/laws.FnExactRecord", spec := "fnExactRecord", apart := false, narrowed := true }
def FnExactRecordUptoSaid : Prop := fnExactRecordUptoRow.holds Try.pinned (OpenSpec.upto fnExactRecordSpec)

/-- 'laws.FnExactRowText', WHERE WHAT IT READS IS OF BULK AT MOST 1048576: true; the input reads as it did. -/
def fnExactRowTextUptoRow : OpenClaim := { program := "ythcpogkffjnefaa", sum := "7d5a8412bb9b7c3b8e082697dc5b6f22c9d1131f67002ee861710df323dfbbba", func := "loop.example/g00116/laws.FnExactRowText", spec := "fnExactRowText", apart := false, narrowed := true }
def FnExactRowTextUptoSaid : Prop := fnExactRowTextUptoRow.holds Try.pinned (OpenSpec.upto fnExactRowTextSpec)

/-- 'laws.FnExactAppend', WHERE WHAT IT READS IS OF BULK AT MOST 1048576: true; the input reads as it did. -/
def fnExactAppendUptoRow : OpenClaim := { program := "ythcpogkffjnefaa", sum := "7d5a8412bb9b7c3b8e082697dc5b6f22c9d1131f67002ee861710df323dfbbba", func := "loop.example/g00116/laws.FnExactAppend", spec := "fnExactAppend", apart := false, narrowed := true }
def FnExactAppendUptoSaid : Prop := fnExactAppendUptoRow.holds Try.pinned (OpenSpec.upto fnExactAppendSpec)

/-- 'laws.FnExactReadRow', WHERE WHAT IT READS IS OF BULK AT MOST 1048576: true; the input reads as it did. -/
def fnExactReadRowUptoRow : OpenClaim := { program := "ythcpogkffjnefaa", sum := "7d5a8412bb9b7c3b8e082697dc5b6f22c9d1131f67002ee861710df323dfbbba", func := "loop.example/g00116/laws.FnExactReadRow", spec := "fnExactReadRow", apart := false, narrowed := true }
def FnExactReadRowUptoSaid : Prop := fnExactReadRowUptoRow.holds Try.pinned (OpenSpec.upto fnExactReadRowSpec)

/-- 'laws.FnExactTidy', WHERE WHAT IT READS IS OF BULK AT MOST 1048576: true; the input reads as it did. -/
def fnExactTidyUptoRow : OpenClaim := { program := "ythcpogkffjnefaa", sum := "7d5a8412bb9b7c3b8e082697dc5b6f22c9d1131f67002ee861710df323dfbbba", func := "loop.example/g00116/laws.FnExactTidy", spec := "fnExactTidy", apart := false, narrowed := true }
def FnExactTidyUptoSaid : Prop := fnExactTidyUptoRow.holds Try.pinned (OpenSpec.upto fnExactTidySpec)

/-- 'laws.FnExactLast', WHERE WHAT IT READS IS OF BULK AT MOST 1048576: true; the input reads as it did. -/
def fnExactLastUptoRow : OpenClaim := { program := "ythcpogkffjnefaa", sum := "7d5a8412bb9b7c3b8e082697dc5b6f22c9d1131f67002ee861710df323dfbbba", func := "loop.example/g00116/laws.FnExactLast", spec := "fnExactLast", apart := false, narrowed := true }
def FnExactLastUptoSaid : Prop := fnExactLastUptoRow.holds Try.pinned (OpenSpec.upto fnExactLastSpec)

/-- 'laws.FnExactRecords', WHERE WHAT IT READS IS OF BULK AT MOST 1048576: true; the input reads as it did. -/
def fnExactRecordsUptoRow : OpenClaim := { program := "ythcpogkffjnefaa", sum := "7d5a8412bb9b7c3b8e082697dc5b6f22c9d1131f67002ee861710df323dfbbba", func := "loop.example/g00116/laws.FnExactRecords", spec := "fnExactRecords", apart := false, narrowed := true }
def FnExactRecordsUptoSaid : Prop := fnExactRecordsUptoRow.holds Try.pinned (OpenSpec.upto fnExactRecordsSpec)

/-- 'laws.FnTorn', WHERE WHAT IT READS IS OF BULK AT MOST 1048576: true; the input reads as it did. -/
def fnTornUptoRow : OpenClaim := { program := "ythcpogkffjnefaa", sum := "7d5a8412bb9b7c3b8e082697dc5b6f22c9d1131f67002ee861710df323dfbbba", func := "loop.example/g00116/laws.FnTorn", spec := "fnTorn", apart := false, narrowed := true }
def FnTornUptoSaid : Prop := fnTornUptoRow.holds Try.pinned (OpenSpec.upto fnTornSpec)

/-- 'laws.FnJournal', WHERE WHAT IT READS IS OF BULK AT MOST 1048576: true; the input reads as it did. -/
def fnJournalUptoRow : OpenClaim := { program := "ythcpogkffjnefaa", sum := "7d5a8412bb9b7c3b8e082697dc5b6f22c9d1131f67002ee861710df323dfbbba", func := "loop.example/g00116/laws.FnJournal", spec := "fnJournal", apart := false, narrowed := true }
def FnJournalUptoSaid : Prop := fnJournalUptoRow.holds Try.pinned (OpenSpec.upto fnJournalSpec)

end Rows
end Go.Proofs.Ythcpogkffjnefaa
