/-
  No cell of these rows narrows 'for every input' (looked for: loops, veiled, ifaces, maps, wideKeys, modest, calm, conditions, laid).
  DERIVED. THE GIVEN ROWS OF THIS SEAT. 12 by the template 'for every input the law returns true; each argument reads behind the call as it read before'; 0 by the template 'total and deterministic' (their statements: YtoklfidamhigcaaTotals.lean).
  GIVEN WITH THE SEED: the statements are not yours to turn. If you find one false, say at which input.
  Laid BY PROGRAM, IN A SANDBOX (cutbox-rows.mjs): the forced cells as the released guide's own fill.sh prints them over the translation df7da3115d33f02e… (all of the seat's roots in one cut). By AI agents, Wed Nov 11 2026. No macro, syntax, notation, axiom, sorry.
-/
import Derived.Test.YtoklfidamhigcaaChecked
import GoSem.Claim
import GoSem.ClaimJoined
import GoSem.ClaimMapViews
import Derived.JoinedTies
import Derived.KernelRfl
namespace Go.Proofs.Ytoklfidamhigcaa
/- THE CELL 'sum', in the pinned program and in every row, IS THE sha256 OF THE DUMP (.gsa) THAT YtoklfidamhigcaaProg.lean LOADS. Nothing in Lean hashes anything: it is a label: what it is worth is what the hold of that sum in a sandbox is worth. -/
noncomputable def Try.pinned : Pinned := { name := "ytoklfidamhigcaa", sum := "df7da3115d33f02ebd2a65905932856991dd9d978bf87ed788587b3d37c6ad8f", checked := Try.checked }
namespace Rows
def none {H : Type} : Left H := { results := [], args := [] }

/-- 'laws.FnThief': WHATEVER THE INPUT: true; the input reads as it did. -/
def fnThiefSpec : ChangeSpec := { name := "fnThief", fn := fun _ => fun
  | [d] => { results := [.lit (.bool true)], args := [d] }
  | _ => none }
def fnThiefRow : OpenClaim := { program := "ytoklfidamhigcaa", sum := "df7da3115d33f02ebd2a65905932856991dd9d978bf87ed788587b3d37c6ad8f", func := "loop.example/g00028/laws.FnThief", spec := "fnThief", apart := false }
def FnThiefSaid : Prop := fnThiefRow.holds Try.pinned (OpenSpec.ofChange fnThiefSpec)

/-- ITS FALSE NEIGHBOUR: 'it returns false'. Refute it at one input. -/
def fnThiefWrong : ChangeSpec := { name := "fnThief", fn := fun _ => fun
  | [d] => { results := [.lit (.bool false)], args := [d] }
  | _ => none }
def FnThiefWrongFalsely : Prop := fnThiefRow.holds Try.pinned (OpenSpec.ofChange fnThiefWrong)

/-- 'laws.FnCounter': WHATEVER THE INPUT: true; the input reads as it did. -/
def fnCounterSpec : ChangeSpec := { name := "fnCounter", fn := fun _ => fun
  | [d] => { results := [.lit (.bool true)], args := [d] }
  | _ => none }
def fnCounterRow : OpenClaim := { program := "ytoklfidamhigcaa", sum := "df7da3115d33f02ebd2a65905932856991dd9d978bf87ed788587b3d37c6ad8f", func := "loop.example/g00028/laws.FnCounter", spec := "fnCounter", apart := false }
def FnCounterSaid : Prop := fnCounterRow.holds Try.pinned (OpenSpec.ofChange fnCounterSpec)

/-- ITS FALSE NEIGHBOUR: 'it returns false'. Refute it at one input. -/
def fnCounterWrong : ChangeSpec := { name := "fnCounter", fn := fun _ => fun
  | [d] => { results := [.lit (.bool false)], args := [d] }
  | _ => none }
def FnCounterWrongFalsely : Prop := fnCounterRow.holds Try.pinned (OpenSpec.ofChange fnCounterWrong)

/-- 'laws.FnSealed': WHATEVER THE INPUT: true; the input reads as it did. -/
def fnSealedSpec : ChangeSpec := { name := "fnSealed", fn := fun _ => fun
  | [d1, d2] => { results := [.lit (.bool true)], args := [d1, d2] }
  | _ => none }
def fnSealedRow : OpenClaim := { program := "ytoklfidamhigcaa", sum := "df7da3115d33f02ebd2a65905932856991dd9d978bf87ed788587b3d37c6ad8f", func := "loop.example/g00028/laws.FnSealed", spec := "fnSealed", apart := false }
def FnSealedSaid : Prop := fnSealedRow.holds Try.pinned (OpenSpec.ofChange fnSealedSpec)

/-- ITS FALSE NEIGHBOUR: 'it returns false'. Refute it at one input. -/
def fnSealedWrong : ChangeSpec := { name := "fnSealed", fn := fun _ => fun
  | [d1, d2] => { results := [.lit (.bool false)], args := [d1, d2] }
  | _ => none }
def FnSealedWrongFalsely : Prop := fnSealedRow.holds Try.pinned (OpenSpec.ofChange fnSealedWrong)

/-- 'laws.FnExactGetTexts': WHATEVER THE INPUT: true; the input reads as it did. -/
def fnExactGetTextsSpec : ChangeSpec := { name := "fnExactGetTexts", fn := fun _ => fun
  | [d] => { results := [.lit (.bool true)], args := [d] }
  | _ => none }
def fnExactGetTextsRow : OpenClaim := { program := "ytoklfidamhigcaa", sum := "df7da3115d33f02ebd2a65905932856991dd9d978bf87ed788587b3d37c6ad8f", func := "loop.example/g00028/laws.FnExactGetTexts", spec := "fnExactGetTexts", apart := false }
def FnExactGetTextsSaid : Prop := fnExactGetTextsRow.holds Try.pinned (OpenSpec.ofChange fnExactGetTextsSpec)

/-- ITS FALSE NEIGHBOUR: 'it returns false'. Refute it at one input. -/
def fnExactGetTextsWrong : ChangeSpec := { name := "fnExactGetTexts", fn := fun _ => fun
  | [d] => { results := [.lit (.bool false)], args := [d] }
  | _ => none }
def FnExactGetTextsWrongFalsely : Prop := fnExactGetTextsRow.holds Try.pinned (OpenSpec.ofChange fnExactGetTextsWrong)

/-- 'laws.FnExactMultiWrite': WHATEVER THE INPUT: true; the input reads as it did. -/
def fnExactMultiWriteSpec : ChangeSpec := { name := "fnExactMultiWrite", fn := fun _ => fun
  | [d1, d2, d3] => { results := [.lit (.bool true)], args := [d1, d2, d3] }
  | _ => none }
def fnExactMultiWriteRow : OpenClaim := { program := "ytoklfidamhigcaa", sum := "df7da3115d33f02ebd2a65905932856991dd9d978bf87ed788587b3d37c6ad8f", func := "loop.example/g00028/laws.FnExactMultiWrite", spec := "fnExactMultiWrite", apart := false }
def FnExactMultiWriteSaid : Prop := fnExactMultiWriteRow.holds Try.pinned (OpenSpec.ofChange fnExactMultiWriteSpec)

/-- ITS FALSE NEIGHBOUR: 'it returns false'. Refute it at one input. -/
def fnExactMultiWriteWrong : ChangeSpec := { name := "fnExactMultiWrite", fn := fun _ => fun
  | [d1, d2, d3] => { results := [.lit (.bool false)], args := [d1, d2, d3] }
  | _ => none }
def FnExactMultiWriteWrongFalsely : Prop := fnExactMultiWriteRow.holds Try.pinned (OpenSpec.ofChange fnExactMultiWriteWrong)

/-- 'laws.FnValues': WHATEVER THE INPUT: true; the input reads as it did. -/
def fnValuesSpec : ChangeSpec := { name := "fnValues", fn := fun _ => fun
  | [d1, d2] => { results := [.lit (.bool true)], args := [d1, d2] }
  | _ => none }
def fnValuesRow : OpenClaim := { program := "ytoklfidamhigcaa", sum := "df7da3115d33f02ebd2a65905932856991dd9d978bf87ed788587b3d37c6ad8f", func := "loop.example/g00028/laws.FnValues", spec := "fnValues", apart := false }
def FnValuesSaid : Prop := fnValuesRow.holds Try.pinned (OpenSpec.ofChange fnValuesSpec)

/-- ITS FALSE NEIGHBOUR: 'it returns false'. Refute it at one input. -/
def fnValuesWrong : ChangeSpec := { name := "fnValues", fn := fun _ => fun
  | [d1, d2] => { results := [.lit (.bool false)], args := [d1, d2] }
  | _ => none }
def FnValuesWrongFalsely : Prop := fnValuesRow.holds Try.pinned (OpenSpec.ofChange fnValuesWrong)

/-- 'laws.FnExactOpBytes': WHATEVER THE INPUT: true; the input reads as it did. -/
def fnExactOpBytesSpec : ChangeSpec := { name := "fnExactOpBytes", fn := fun _ => fun
  | [d] => { results := [.lit (.bool true)], args := [d] }
  | _ => none }
def fnExactOpBytesRow : OpenClaim := { program := "ytoklfidamhigcaa", sum := "df7da3115d33f02ebd2a65905932856991dd9d978bf87ed788587b3d37c6ad8f", func := "loop.example/g00028/laws.FnExactOpBytes", spec := "fnExactOpBytes", recurses := true, apart := false }
def FnExactOpBytesSaid : Prop := fnExactOpBytesRow.holds Try.pinned (OpenSpec.ofChange fnExactOpBytesSpec)

/-- ITS FALSE NEIGHBOUR: 'it returns false'. Refute it at one input. -/
def fnExactOpBytesWrong : ChangeSpec := { name := "fnExactOpBytes", fn := fun _ => fun
  | [d] => { results := [.lit (.bool false)], args := [d] }
  | _ => none }
def FnExactOpBytesWrongFalsely : Prop := fnExactOpBytesRow.holds Try.pinned (OpenSpec.ofChange fnExactOpBytesWrong)

/-- 'laws.FnExactRecordBytes': WHATEVER THE INPUT: true; the input reads as it did. -/
def fnExactRecordBytesSpec : ChangeSpec := { name := "fnExactRecordBytes", fn := fun _ => fun
  | [d] => { results := [.lit (.bool true)], args := [d] }
  | _ => none }
def fnExactRecordBytesRow : OpenClaim := { program := "ytoklfidamhigcaa", sum := "df7da3115d33f02ebd2a65905932856991dd9d978bf87ed788587b3d37c6ad8f", func := "loop.example/g00028/laws.FnExactRecordBytes", spec := "fnExactRecordBytes", recurses := true, apart := false }
def FnExactRecordBytesSaid : Prop := fnExactRecordBytesRow.holds Try.pinned (OpenSpec.ofChange fnExactRecordBytesSpec)

/-- ITS FALSE NEIGHBOUR: 'it returns false'. Refute it at one input. -/
def fnExactRecordBytesWrong : ChangeSpec := { name := "fnExactRecordBytes", fn := fun _ => fun
  | [d] => { results := [.lit (.bool false)], args := [d] }
  | _ => none }
def FnExactRecordBytesWrongFalsely : Prop := fnExactRecordBytesRow.holds Try.pinned (OpenSpec.ofChange fnExactRecordBytesWrong)

/-- 'laws.FnBytes': WHATEVER THE INPUT: true; the input reads as it did. -/
def fnBytesSpec : ChangeSpec := { name := "fnBytes", fn := fun _ => fun
  | [d] => { results := [.lit (.bool true)], args := [d] }
  | _ => none }
def fnBytesRow : OpenClaim := { program := "ytoklfidamhigcaa", sum := "df7da3115d33f02ebd2a65905932856991dd9d978bf87ed788587b3d37c6ad8f", func := "loop.example/g00028/laws.FnBytes", spec := "fnBytes", recurses := true, apart := false }
def FnBytesSaid : Prop := fnBytesRow.holds Try.pinned (OpenSpec.ofChange fnBytesSpec)

/-- ITS FALSE NEIGHBOUR: 'it returns false'. Refute it at one input. -/
def fnBytesWrong : ChangeSpec := { name := "fnBytes", fn := fun _ => fun
  | [d] => { results := [.lit (.bool false)], args := [d] }
  | _ => none }
def FnBytesWrongFalsely : Prop := fnBytesRow.holds Try.pinned (OpenSpec.ofChange fnBytesWrong)

/-- 'laws.FnExactReadRecords': WHATEVER THE INPUT: true; the input reads as it did. -/
def fnExactReadRecordsSpec : ChangeSpec := { name := "fnExactReadRecords", fn := fun _ => fun
  | [d] => { results := [.lit (.bool true)], args := [d] }
  | _ => none }
def fnExactReadRecordsRow : OpenClaim := { program := "ytoklfidamhigcaa", sum := "df7da3115d33f02ebd2a65905932856991dd9d978bf87ed788587b3d37c6ad8f", func := "loop.example/g00028/laws.FnExactReadRecords", spec := "fnExactReadRecords", recurses := true, apart := false }
def FnExactReadRecordsSaid : Prop := fnExactReadRecordsRow.holds Try.pinned (OpenSpec.ofChange fnExactReadRecordsSpec)

/-- ITS FALSE NEIGHBOUR: 'it returns false'. Refute it at one input. -/
def fnExactReadRecordsWrong : ChangeSpec := { name := "fnExactReadRecords", fn := fun _ => fun
  | [d] => { results := [.lit (.bool false)], args := [d] }
  | _ => none }
def FnExactReadRecordsWrongFalsely : Prop := fnExactReadRecordsRow.holds Try.pinned (OpenSpec.ofChange fnExactReadRecordsWrong)

/-- 'laws.FnRecords': WHATEVER THE INPUT: true; the input reads as it did. -/
def fnRecordsSpec : ChangeSpec := { name := "fnRecords", fn := fun _ => fun
  | [d1, d2] => { results := [.lit (.bool true)], args := [d1, d2] }
  | _ => none }
def fnRecordsRow : OpenClaim := { program := "ytoklfidamhigcaa", sum := "df7da3115d33f02ebd2a65905932856991dd9d978bf87ed788587b3d37c6ad8f", func := "loop.example/g00028/laws.FnRecords", spec := "fnRecords", recurses := true, apart := false }
def FnRecordsSaid : Prop := fnRecordsRow.holds Try.pinned (OpenSpec.ofChange fnRecordsSpec)

/-- ITS FALSE NEIGHBOUR: 'it returns false'. Refute it at one input. -/
def fnRecordsWrong : ChangeSpec := { name := "fnRecords", fn := fun _ => fun
  | [d1, d2] => { results := [.lit (.bool false)], args := [d1, d2] }
  | _ => none }
def FnRecordsWrongFalsely : Prop := fnRecordsRow.holds Try.pinned (OpenSpec.ofChange fnRecordsWrong)

/-- 'laws.FnSince': WHATEVER THE INPUT: true; the input reads as it did. -/
def fnSinceSpec : ChangeSpec := { name := "fnSince", fn := fun _ => fun
  | [d] => { results := [.lit (.bool true)], args := [d] }
  | _ => none }
def fnSinceRow : OpenClaim := { program := "ytoklfidamhigcaa", sum := "df7da3115d33f02ebd2a65905932856991dd9d978bf87ed788587b3d37c6ad8f", func := "loop.example/g00028/laws.FnSince", spec := "fnSince", apart := false }
def FnSinceSaid : Prop := fnSinceRow.holds Try.pinned (OpenSpec.ofChange fnSinceSpec)

/-- ITS FALSE NEIGHBOUR: 'it returns false'. Refute it at one input. -/
def fnSinceWrong : ChangeSpec := { name := "fnSince", fn := fun _ => fun
  | [d] => { results := [.lit (.bool false)], args := [d] }
  | _ => none }
def FnSinceWrongFalsely : Prop := fnSinceRow.holds Try.pinned (OpenSpec.ofChange fnSinceWrong)

/- THE SECOND FORM. 'bulk': how many values and letters a reading holds, each counted each time it is reached (what is shared counts as often as it is met; a slice's spare places count too). A statement '..UptoSaid' is the law's where the arguments, and the package variables that the reading takes, are together of bulk at most 1048576: NARROWER than '..Said'. Prove '..Said' where nothing that the law and all that it calls make is longer than what came in: it says more and counts as full. Else prove '..UptoSaid'. A law counts once. -/
mutual
def uptoBulk {H : Type} : DataW H → Nat
  | .lit (.string bytes) => bytes.length + 1
  | .lit _ => 1
  | .nil => 1
  | .ptr d => uptoBulk d + 1
  | .slice elems spare => uptoBulkAll elems + uptoBulkAll spare + 1
  | .agg parts => uptoBulkAll parts + 1
  | .iface _ d => uptoBulk d + 1
  | .map entries => uptoBulkEntries entries + 1
  | .held _ => 1
def uptoBulkAll {H : Type} : List (DataW H) → Nat
  | [] => 0
  | d :: r => uptoBulk d + uptoBulkAll r
def uptoBulkEntries {H : Type} : List (Lit × DataW H) → Nat
  | [] => 0
  | x :: r => uptoBulkEntry x + uptoBulkEntries r
def uptoBulkEntry {H : Type} : Lit × DataW H → Nat
  | (.string bytes, d) => bytes.length + uptoBulk d + 1
  | (_, d) => uptoBulk d + 1
 end
def uptoSmall : (H : Type) → List (DataW H) → Bool := fun _ ds => decide (uptoBulkAll ds ≤ 1048576)
def OpenSpec.upto (s : _root_.Go.ChangeSpec) : _root_.Go.OpenSpec := { _root_.Go.OpenSpec.ofChange s with cond := some uptoSmall }

/-- 'laws.FnThief', WHERE WHAT IT READS IS OF BULK AT MOST 1048576: true; the input reads as it did. -/
def fnThiefUptoRow : OpenClaim := { program := "ytoklfidamhigcaa", sum := "df7da3115d33f02ebd2a65905932856991dd9d978bf87ed788587b3d37c6ad8f", func := "loop.example/g00028/laws.FnThief", spec := "fnThief", apart := false, narrowed := true }
def FnThiefUptoSaid : Prop := fnThiefUptoRow.holds Try.pinned (OpenSpec.upto fnThiefSpec)

/-- 'laws.FnCounter', WHERE WHAT IT READS IS OF BULK AT MOST 1048576: true; the input reads as it did. -/
def fnCounterUptoRow : OpenClaim := { program := "ytoklfidamhigcaa", sum := "df7da3115d33f02ebd2a65905932856991dd9d978bf87ed788587b3d37c6ad8f", func := "loop.example/g00028/laws.FnCounter", spec := "fnCounter", apart := false, narrowed := true }
def FnCounterUptoSaid : Prop := fnCounterUptoRow.holds Try.pinned (OpenSpec.upto fnCounterSpec)

/-- 'laws.FnSealed', WHERE WHAT IT READS IS OF BULK AT MOST 1048576: true; the input reads as it did. -/
def fnSealedUptoRow : OpenClaim := { program := "ytoklfidamhigcaa", sum := "df7da3115d33f02ebd2a65905932856991dd9d978bf87ed788587b3d37c6ad8f", func := "loop.example/g00028/laws.FnSealed", spec := "fnSealed", apart := false, narrowed := true }
def FnSealedUptoSaid : Prop := fnSealedUptoRow.holds Try.pinned (OpenSpec.upto fnSealedSpec)

/-- 'laws.FnExactGetTexts', WHERE WHAT IT READS IS OF BULK AT MOST 1048576: true; the input reads as it did. -/
def fnExactGetTextsUptoRow : OpenClaim := { program := "ytoklfidamhigcaa", sum := "df7da3115d33f02ebd2a65905932856991dd9d978bf87ed788587b3d37c6ad8f", func := "loop.example/g00028/laws.FnExactGetTexts", spec := "fnExactGetTexts", apart := false, narrowed := true }
def FnExactGetTextsUptoSaid : Prop := fnExactGetTextsUptoRow.holds Try.pinned (OpenSpec.upto fnExactGetTextsSpec)

/-- 'laws.FnExactMultiWrite', WHERE WHAT IT READS IS OF BULK AT MOST 1048576: true; the input reads as it did. -/
def fnExactMultiWriteUptoRow : OpenClaim := { program := "ytoklfidamhigcaa", sum := "df7da3115d33f02ebd2a65905932856991dd9d978bf87ed788587b3d37c6ad8f", func := "loop.example/g00028/laws.FnExactMultiWrite", spec := "fnExactMultiWrite", apart := false, narrowed := true }
def FnExactMultiWriteUptoSaid : Prop := fnExactMultiWriteUptoRow.holds Try.pinned (OpenSpec.upto fnExactMultiWriteSpec)

/-- 'laws.FnValues', WHERE WHAT IT READS IS OF BULK AT MOST 1048576: true; the input reads as it did. -/
def fnValuesUptoRow : OpenClaim := { program := "ytoklfidamhigcaa", sum := "df7da3115d33f02ebd2a65905932856991dd9d978bf87ed788587b3d37c6ad8f", func := "loop.example/g00028/laws.FnValues", spec := "fnValues", apart := false, narrowed := true }
def FnValuesUptoSaid : Prop := fnValuesUptoRow.holds Try.pinned (OpenSpec.upto fnValuesSpec)

/-- 'laws.FnExactOpBytes', WHERE WHAT IT READS IS OF BULK AT MOST 1048576: true; the input reads as it did. -/
def fnExactOpBytesUptoRow : OpenClaim := { program := "ytoklfidamhigcaa", sum := "df7da3115d33f02ebd2a65905932856991dd9d978bf87ed788587b3d37c6ad8f", func := "loop.example/g00028/laws.FnExactOpBytes", spec := "fnExactOpBytes", recurses := true, apart := false, narrowed := true }
def FnExactOpBytesUptoSaid : Prop := fnExactOpBytesUptoRow.holds Try.pinned (OpenSpec.upto fnExactOpBytesSpec)

/-- 'laws.FnExactRecordBytes', WHERE WHAT IT READS IS OF BULK AT MOST 1048576: true; the input reads as it did. -/
def fnExactRecordBytesUptoRow : OpenClaim := { program := "ytoklfidamhigcaa", sum := "df7da3115d33f02ebd2a65905932856991dd9d978bf87ed788587b3d37c6ad8f", func := "loop.example/g00028/laws.FnExactRecordBytes", spec := "fnExactRecordBytes", recurses := true, apart := false, narrowed := true }
def FnExactRecordBytesUptoSaid : Prop := fnExactRecordBytesUptoRow.holds Try.pinned (OpenSpec.upto fnExactRecordBytesSpec)

/-- 'laws.FnBytes', WHERE WHAT IT READS IS OF BULK AT MOST 1048576: true; the input reads as it did. -/
def fnBytesUptoRow : OpenClaim := { program := "ytoklfidamhigcaa", sum := "df7da3115d33f02ebd2a65905932856991dd9d978bf87ed788587b3d37c6ad8f", func := "loop.example/g00028/laws.FnBytes", spec := "fnBytes", recurses := true, apart := false, narrowed := true }
def FnBytesUptoSaid : Prop := fnBytesUptoRow.holds Try.pinned (OpenSpec.upto fnBytesSpec)

/-- 'laws.FnExactReadRecords', WHERE WHAT IT READS IS OF BULK AT MOST 1048576: true; the input reads as it did. -/
def fnExactReadRecordsUptoRow : OpenClaim := { program := "ytoklfidamhigcaa", sum := "df7da3115d33f02ebd2a65905932856991dd9d978bf87ed788587b3d37c6ad8f", func := "loop.example/g00028/laws.FnExactReadRecords", spec := "fnExactReadRecords", recurses := true, apart := false, narrowed := true }
def FnExactReadRecordsUptoSaid : Prop := fnExactReadRecordsUptoRow.holds Try.pinned (OpenSpec.upto fnExactReadRecordsSpec)

/-- 'laws.FnRecords', WHERE WHAT IT READS IS OF BULK AT MOST 1048576: true; the input reads as it did. -/
def fnRecordsUptoRow : OpenClaim := { program := "ytoklfidamhigcaa", sum := "df7da3115d33f02ebd2a65905932856991dd9d978bf87ed788587b3d37c6ad8f", func := "loop.example/g00028/laws.FnRecords", spec := "fnRecords", recurses := true, apart := false, narrowed := true }
def FnRecordsUptoSaid : Prop := fnRecordsUptoRow.holds Try.pinned (OpenSpec.upto fnRecordsSpec)

/-- 'laws.FnSince', WHERE WHAT IT READS IS OF BULK AT MOST 1048576: true; the input reads as it did. -/
def fnSinceUptoRow : OpenClaim := { program := "ytoklfidamhigcaa", sum := "df7da3115d33f02ebd2a65905932856991dd9d978bf87ed788587b3d37c6ad8f", func := "loop.example/g00028/laws.FnSince", spec := "fnSince", apart := false, narrowed := true }
def FnSinceUptoSaid : Prop := fnSinceUptoRow.holds Try.pinned (OpenSpec.upto fnSinceSpec)

end Rows
end Go.Proofs.Ytoklfidamhigcaa
