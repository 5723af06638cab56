/-
  No cell of these rows narrows 'for every input' (looked for: loops, veiled, ifaces, maps, wideKeys, modest, calm, conditions, laid).
  DERIVED. THE GIVEN ROWS OF THIS SEAT. 12 by the template 'for every input the law returns true; each argument reads behind the call as it read before'; 0 by the template 'total and deterministic' (their statements: YtpapcelgdcbolaaTotals.lean).
  GIVEN WITH THE SEED: the statements are not yours to turn. If you find one false, say at which input.
  Laid BY PROGRAM, IN A SANDBOX (cutbox-rows.mjs): the forced cells as the released guide's own fill.sh prints them over the translation 2b5c503bcf4912bc… (all of the seat's roots in one cut). By AI agents, Wed Nov 11 2026. No macro, syntax, notation, axiom, sorry.
-/
import Derived.Test.YtpapcelgdcbolaaChecked
import GoSem.Claim
import GoSem.ClaimJoined
import GoSem.ClaimMapViews
import Derived.JoinedTies
import Derived.KernelRfl
namespace Go.Proofs.Ytpapcelgdcbolaa
/- THE CELL 'sum', in the pinned program and in every row, IS THE sha256 OF THE DUMP (.gsa) THAT YtpapcelgdcbolaaProg.lean LOADS. Nothing in Lean hashes anything: it is a label: what it is worth is what the hold of that sum in a sandbox is worth. -/
noncomputable def Try.pinned : Pinned := { name := "ytpapcelgdcbolaa", sum := "2b5c503bcf4912bc9f1eda77a111a9252d9714b27617b4b6793875c85783dfe6", checked := Try.checked }
namespace Rows
def none {H : Type} : Left H := { results := [], args := [] }

/-- 'laws.FnThief': WHATEVER THE INPUT: true; the input reads as it did. -/
def fnThiefSpec : ChangeSpec := { name := "fnThief", fn := fun _ => fun
  | [d] => { results := [.lit (.bool true)], args := [d] }
  | _ => none }
def fnThiefRow : OpenClaim := { program := "ytpapcelgdcbolaa", sum := "2b5c503bcf4912bc9f1eda77a111a9252d9714b27617b4b6793875c85783dfe6", func := "loop.example/g00028/laws.FnThief", spec := "fnThief", apart := false }
def FnThiefSaid : Prop := fnThiefRow.holds Try.pinned (OpenSpec.ofChange fnThiefSpec)

/-- ITS FALSE NEIGHBOUR: 'it returns false'. Refute it at one input. -/
def fnThiefWrong : ChangeSpec := { name := "fnThief", fn := fun _ => fun
  | [d] => { results := [.lit (.bool false)], args := [d] }
  | _ => none }
def FnThiefWrongFalsely : Prop := fnThiefRow.holds Try.pinned (OpenSpec.ofChange fnThiefWrong)

/-- 'laws.FnExactOpenText': WHATEVER THE INPUT: true; the input reads as it did. -/
def fnExactOpenTextSpec : ChangeSpec := { name := "fnExactOpenText", fn := fun _ => fun
  | [d1, d2, d3] => { results := [.lit (.bool true)], args := [d1, d2, d3] }
  | _ => none }
def fnExactOpenTextRow : OpenClaim := { program := "ytpapcelgdcbolaa", sum := "2b5c503bcf4912bc9f1eda77a111a9252d9714b27617b4b6793875c85783dfe6", func := "loop.example/g00028/laws.FnExactOpenText", spec := "fnExactOpenText", apart := false }
def FnExactOpenTextSaid : Prop := fnExactOpenTextRow.holds Try.pinned (OpenSpec.ofChange fnExactOpenTextSpec)

/-- ITS FALSE NEIGHBOUR: 'it returns false'. Refute it at one input. -/
def fnExactOpenTextWrong : ChangeSpec := { name := "fnExactOpenText", fn := fun _ => fun
  | [d1, d2, d3] => { results := [.lit (.bool false)], args := [d1, d2, d3] }
  | _ => none }
def FnExactOpenTextWrongFalsely : Prop := fnExactOpenTextRow.holds Try.pinned (OpenSpec.ofChange fnExactOpenTextWrong)

/-- 'laws.FnExactSealText': WHATEVER THE INPUT: true; the input reads as it did. -/
def fnExactSealTextSpec : ChangeSpec := { name := "fnExactSealText", fn := fun _ => fun
  | [d1, d2, d3] => { results := [.lit (.bool true)], args := [d1, d2, d3] }
  | _ => none }
def fnExactSealTextRow : OpenClaim := { program := "ytpapcelgdcbolaa", sum := "2b5c503bcf4912bc9f1eda77a111a9252d9714b27617b4b6793875c85783dfe6", func := "loop.example/g00028/laws.FnExactSealText", spec := "fnExactSealText", apart := false }
def FnExactSealTextSaid : Prop := fnExactSealTextRow.holds Try.pinned (OpenSpec.ofChange fnExactSealTextSpec)

/-- ITS FALSE NEIGHBOUR: 'it returns false'. Refute it at one input. -/
def fnExactSealTextWrong : ChangeSpec := { name := "fnExactSealText", fn := fun _ => fun
  | [d1, d2, d3] => { results := [.lit (.bool false)], args := [d1, d2, d3] }
  | _ => none }
def FnExactSealTextWrongFalsely : Prop := fnExactSealTextRow.holds Try.pinned (OpenSpec.ofChange fnExactSealTextWrong)

/-- 'laws.FnCounter': WHATEVER THE INPUT: true; the input reads as it did. -/
def fnCounterSpec : ChangeSpec := { name := "fnCounter", fn := fun _ => fun
  | [d] => { results := [.lit (.bool true)], args := [d] }
  | _ => none }
def fnCounterRow : OpenClaim := { program := "ytpapcelgdcbolaa", sum := "2b5c503bcf4912bc9f1eda77a111a9252d9714b27617b4b6793875c85783dfe6", func := "loop.example/g00028/laws.FnCounter", spec := "fnCounter", apart := false }
def FnCounterSaid : Prop := fnCounterRow.holds Try.pinned (OpenSpec.ofChange fnCounterSpec)

/-- ITS FALSE NEIGHBOUR: 'it returns false'. Refute it at one input. -/
def fnCounterWrong : ChangeSpec := { name := "fnCounter", fn := fun _ => fun
  | [d] => { results := [.lit (.bool false)], args := [d] }
  | _ => none }
def FnCounterWrongFalsely : Prop := fnCounterRow.holds Try.pinned (OpenSpec.ofChange fnCounterWrong)

/-- 'laws.FnSealed': WHATEVER THE INPUT: true; the input reads as it did. -/
def fnSealedSpec : ChangeSpec := { name := "fnSealed", fn := fun _ => fun
  | [d1, d2] => { results := [.lit (.bool true)], args := [d1, d2] }
  | _ => none }
def fnSealedRow : OpenClaim := { program := "ytpapcelgdcbolaa", sum := "2b5c503bcf4912bc9f1eda77a111a9252d9714b27617b4b6793875c85783dfe6", func := "loop.example/g00028/laws.FnSealed", spec := "fnSealed", apart := false }
def FnSealedSaid : Prop := fnSealedRow.holds Try.pinned (OpenSpec.ofChange fnSealedSpec)

/-- ITS FALSE NEIGHBOUR: 'it returns false'. Refute it at one input. -/
def fnSealedWrong : ChangeSpec := { name := "fnSealed", fn := fun _ => fun
  | [d1, d2] => { results := [.lit (.bool false)], args := [d1, d2] }
  | _ => none }
def FnSealedWrongFalsely : Prop := fnSealedRow.holds Try.pinned (OpenSpec.ofChange fnSealedWrong)

/-- 'laws.FnExactGetTexts': WHATEVER THE INPUT: true; the input reads as it did. -/
def fnExactGetTextsSpec : ChangeSpec := { name := "fnExactGetTexts", fn := fun _ => fun
  | [d] => { results := [.lit (.bool true)], args := [d] }
  | _ => none }
def fnExactGetTextsRow : OpenClaim := { program := "ytpapcelgdcbolaa", sum := "2b5c503bcf4912bc9f1eda77a111a9252d9714b27617b4b6793875c85783dfe6", func := "loop.example/g00028/laws.FnExactGetTexts", spec := "fnExactGetTexts", apart := false }
def FnExactGetTextsSaid : Prop := fnExactGetTextsRow.holds Try.pinned (OpenSpec.ofChange fnExactGetTextsSpec)

/-- ITS FALSE NEIGHBOUR: 'it returns false'. Refute it at one input. -/
def fnExactGetTextsWrong : ChangeSpec := { name := "fnExactGetTexts", fn := fun _ => fun
  | [d] => { results := [.lit (.bool false)], args := [d] }
  | _ => none }
def FnExactGetTextsWrongFalsely : Prop := fnExactGetTextsRow.holds Try.pinned (OpenSpec.ofChange fnExactGetTextsWrong)

/-- 'laws.FnExactMultiWrite': WHATEVER THE INPUT: true; the input reads as it did. -/
def fnExactMultiWriteSpec : ChangeSpec := { name := "fnExactMultiWrite", fn := fun _ => fun
  | [d1, d2, d3] => { results := [.lit (.bool true)], args := [d1, d2, d3] }
  | _ => none }
def fnExactMultiWriteRow : OpenClaim := { program := "ytpapcelgdcbolaa", sum := "2b5c503bcf4912bc9f1eda77a111a9252d9714b27617b4b6793875c85783dfe6", func := "loop.example/g00028/laws.FnExactMultiWrite", spec := "fnExactMultiWrite", apart := false }
def FnExactMultiWriteSaid : Prop := fnExactMultiWriteRow.holds Try.pinned (OpenSpec.ofChange fnExactMultiWriteSpec)

/-- ITS FALSE NEIGHBOUR: 'it returns false'. Refute it at one input. -/
def fnExactMultiWriteWrong : ChangeSpec := { name := "fnExactMultiWrite", fn := fun _ => fun
  | [d1, d2, d3] => { results := [.lit (.bool false)], args := [d1, d2, d3] }
  | _ => none }
def FnExactMultiWriteWrongFalsely : Prop := fnExactMultiWriteRow.holds Try.pinned (OpenSpec.ofChange fnExactMultiWriteWrong)

/-- 'laws.FnValues': WHATEVER THE INPUT: true; the input reads as it did. -/
def fnValuesSpec : ChangeSpec := { name := "fnValues", fn := fun _ => fun
  | [d1, d2] => { results := [.lit (.bool true)], args := [d1, d2] }
  | _ => none }
def fnValuesRow : OpenClaim := { program := "ytpapcelgdcbolaa", sum := "2b5c503bcf4912bc9f1eda77a111a9252d9714b27617b4b6793875c85783dfe6", func := "loop.example/g00028/laws.FnValues", spec := "fnValues", apart := false }
def FnValuesSaid : Prop := fnValuesRow.holds Try.pinned (OpenSpec.ofChange fnValuesSpec)

/-- ITS FALSE NEIGHBOUR: 'it returns false'. Refute it at one input. -/
def fnValuesWrong : ChangeSpec := { name := "fnValues", fn := fun _ => fun
  | [d1, d2] => { results := [.lit (.bool false)], args := [d1, d2] }
  | _ => none }
def FnValuesWrongFalsely : Prop := fnValuesRow.holds Try.pinned (OpenSpec.ofChange fnValuesWrong)

/-- 'laws.FnExactRowChanges': WHATEVER THE INPUT: true; the input reads as it did. -/
def fnExactRowChangesSpec : ChangeSpec := { name := "fnExactRowChanges", fn := fun _ => fun
  | [d1, d2, d3] => { results := [.lit (.bool true)], args := [d1, d2, d3] }
  | _ => none }
def fnExactRowChangesRow : OpenClaim := { program := "ytpapcelgdcbolaa", sum := "2b5c503bcf4912bc9f1eda77a111a9252d9714b27617b4b6793875c85783dfe6", func := "loop.example/g00028/laws.FnExactRowChanges", spec := "fnExactRowChanges", apart := false }
def FnExactRowChangesSaid : Prop := fnExactRowChangesRow.holds Try.pinned (OpenSpec.ofChange fnExactRowChangesSpec)

/-- ITS FALSE NEIGHBOUR: 'it returns false'. Refute it at one input. -/
def fnExactRowChangesWrong : ChangeSpec := { name := "fnExactRowChanges", fn := fun _ => fun
  | [d1, d2, d3] => { results := [.lit (.bool false)], args := [d1, d2, d3] }
  | _ => none }
def FnExactRowChangesWrongFalsely : Prop := fnExactRowChangesRow.holds Try.pinned (OpenSpec.ofChange fnExactRowChangesWrong)

/-- 'laws.FnExactOpBytes': WHATEVER THE INPUT: true; the input reads as it did. -/
def fnExactOpBytesSpec : ChangeSpec := { name := "fnExactOpBytes", fn := fun _ => fun
  | [d] => { results := [.lit (.bool true)], args := [d] }
  | _ => none }
def fnExactOpBytesRow : OpenClaim := { program := "ytpapcelgdcbolaa", sum := "2b5c503bcf4912bc9f1eda77a111a9252d9714b27617b4b6793875c85783dfe6", func := "loop.example/g00028/laws.FnExactOpBytes", spec := "fnExactOpBytes", recurses := true, apart := false }
def FnExactOpBytesSaid : Prop := fnExactOpBytesRow.holds Try.pinned (OpenSpec.ofChange fnExactOpBytesSpec)

/-- ITS FALSE NEIGHBOUR: 'it returns false'. Refute it at one input. -/
def fnExactOpBytesWrong : ChangeSpec := { name := "fnExactOpBytes", fn := fun _ => fun
  | [d] => { results := [.lit (.bool false)], args := [d] }
  | _ => none }
def FnExactOpBytesWrongFalsely : Prop := fnExactOpBytesRow.holds Try.pinned (OpenSpec.ofChange fnExactOpBytesWrong)

/-- 'laws.FnExactRecordBytes': WHATEVER THE INPUT: true; the input reads as it did. -/
def fnExactRecordBytesSpec : ChangeSpec := { name := "fnExactRecordBytes", fn := fun _ => fun
  | [d] => { results := [.lit (.bool true)], args := [d] }
  | _ => none }
def fnExactRecordBytesRow : OpenClaim := { program := "ytpapcelgdcbolaa", sum := "2b5c503bcf4912bc9f1eda77a111a9252d9714b27617b4b6793875c85783dfe6", func := "loop.example/g00028/laws.FnExactRecordBytes", spec := "fnExactRecordBytes", recurses := true, apart := false }
def FnExactRecordBytesSaid : Prop := fnExactRecordBytesRow.holds Try.pinned (OpenSpec.ofChange fnExactRecordBytesSpec)

/-- ITS FALSE NEIGHBOUR: 'it returns false'. Refute it at one input. -/
def fnExactRecordBytesWrong : ChangeSpec := { name := "fnExactRecordBytes", fn := fun _ => fun
  | [d] => { results := [.lit (.bool false)], args := [d] }
  | _ => none }
def FnExactRecordBytesWrongFalsely : Prop := fnExactRecordBytesRow.holds Try.pinned (OpenSpec.ofChange fnExactRecordBytesWrong)

/-- 'laws.FnBytes': WHATEVER THE INPUT: true; the input reads as it did. -/
def fnBytesSpec : ChangeSpec := { name := "fnBytes", fn := fun _ => fun
  | [d] => { results := [.lit (.bool true)], args := [d] }
  | _ => none }
def fnBytesRow : OpenClaim := { program := "ytpapcelgdcbolaa", sum := "2b5c503bcf4912bc9f1eda77a111a9252d9714b27617b4b6793875c85783dfe6", func := "loop.example/g00028/laws.FnBytes", spec := "fnBytes", recurses := true, apart := false }
def FnBytesSaid : Prop := fnBytesRow.holds Try.pinned (OpenSpec.ofChange fnBytesSpec)

/-- ITS FALSE NEIGHBOUR: 'it returns false'. Refute it at one input. -/
def fnBytesWrong : ChangeSpec := { name := "fnBytes", fn := fun _ => fun
  | [d] => { results := [.lit (.bool false)], args := [d] }
  | _ => none }
def FnBytesWrongFalsely : Prop := fnBytesRow.holds Try.pinned (OpenSpec.ofChange fnBytesWrong)

/- THE SECOND FORM. 'bulk': how many values and letters a reading holds, each counted each time it is reached (what is shared counts as often as it is met; a slice's spare places count too). A statement '..UptoSaid' is the law's where the arguments, and the package variables that the reading takes, are together of bulk at most 1048576: NARROWER than '..Said'. Prove '..Said' where nothing that the law and all that it calls make is longer than what came in: it says more and counts as full. Else prove '..UptoSaid'. A law counts once. -/
mutual
def uptoBulk {H : Type} : DataW H → Nat
  | .lit (.string bytes) => bytes.length + 1
  | .lit _ => 1
  | .nil => 1
  | .ptr d => uptoBulk d + 1
  | .slice elems spare => uptoBulkAll elems + uptoBulkAll spare + 1
  | .agg parts => uptoBulkAll parts + 1
  | .iface _ d => uptoBulk d + 1
  | .map entries => uptoBulkEntries entries + 1
  | .held _ => 1
def uptoBulkAll {H : Type} : List (DataW H) → Nat
  | [] => 0
  | d :: r => uptoBulk d + uptoBulkAll r
def uptoBulkEntries {H : Type} : List (Lit × DataW H) → Nat
  | [] => 0
  | x :: r => uptoBulkEntry x + uptoBulkEntries r
def uptoBulkEntry {H : Type} : Lit × DataW H → Nat
  | (.string bytes, d) => bytes.length + uptoBulk d + 1
  | (_, d) => uptoBulk d + 1
 end
def uptoSmall : (H : Type) → List (DataW H) → Bool := fun _ ds => decide (uptoBulkAll ds ≤ 1048576)
def OpenSpec.upto (s : _root_.Go.ChangeSpec) : _root_.Go.OpenSpec := { _root_.Go.OpenSpec.ofChange s with cond := some uptoSmall }

/-- 'laws.FnThief', WHERE WHAT IT READS IS OF BULK AT MOST 1048576: true; the input reads as it did. -/
def fnThiefUptoRow : OpenClaim := { program := "ytpapcelgdcbolaa", sum := "2b5c503bcf4912bc9f1eda77a111a9252d9714b27617b4b6793875c85783dfe6", func := "loop.example/g00028/laws.FnThief", spec := "fnThief", apart := false, narrowed := true }
def FnThiefUptoSaid : Prop := fnThiefUptoRow.holds Try.pinned (OpenSpec.upto fnThiefSpec)

/-- 'laws.FnExactOpenText', WHERE WHAT IT READS IS OF BULK AT MOST 1048576: true; the input reads as it did. -/
def fnExactOpenTextUptoRow : OpenClaim := { program := "ytpapcelgdcbolaa", sum := "2b5c503bcf4912bc9f1eda77a111a9252d9714b27617b4b6793875c85783dfe6", func := "loop.example/g00028/laws.FnExactOpenText", spec := "fnExactOpenText", apart := false, narrowed := true }
def FnExactOpenTextUptoSaid : Prop := fnExactOpenTextUptoRow.holds Try.pinned (OpenSpec.upto fnExactOpenTextSpec)

/-- 'laws.FnExactSealText', WHERE WHAT IT READS IS OF BULK AT MOST 1048576: true; the input reads as it did. -/
def fnExactSealTextUptoRow : OpenClaim := { program := "ytpapcelgdcbolaa", sum := "2b5c503bcf4912bc9f1eda77a111a9252d9714b27617b4b6793875c85783dfe6", func := "loop.example/g00028/laws.FnExactSealText", spec := "fnExactSealText", apart := false, narrowed := true }
def FnExactSealTextUptoSaid : Prop := fnExactSealTextUptoRow.holds Try.pinned (OpenSpec.upto fnExactSealTextSpec)

/-- 'laws.FnCounter', WHERE WHAT IT READS IS OF BULK AT MOST 1048576: true; the input reads as it did. -/
def fnCounterUptoRow : OpenClaim := { program := "ytpapcelgdcbolaa", sum := "2b5c503bcf4912bc9f1eda77a111a9252d9714b27617b4b6793875c85783dfe6", func := "loop.example/g00028/laws.FnCounter", spec := "fnCounter", apart := false, narrowed := true }
def FnCounterUptoSaid : Prop := fnCounterUptoRow.holds Try.pinned (OpenSpec.upto fnCounterSpec)

/-- 'laws.FnSealed', WHERE WHAT IT READS IS OF BULK AT MOST 1048576: true; the input reads as it did. -/
def fnSealedUptoRow : OpenClaim := { program := "ytpapcelgdcbolaa", sum := "2b5c503bcf4912bc9f1eda77a111a9252d9714b27617b4b6793875c85783dfe6", func := "loop.example/g00028/laws.FnSealed", spec := "fnSealed", apart := false, narrowed := true }
def FnSealedUptoSaid : Prop := fnSealedUptoRow.holds Try.pinned (OpenSpec.upto fnSealedSpec)

/-- 'laws.FnExactGetTexts', WHERE WHAT IT READS IS OF BULK AT MOST 1048576: true; the input reads as it did. -/
def fnExactGetTextsUptoRow : OpenClaim := { program := "ytpapcelgdcbolaa", sum := "2b5c503bcf4912bc9f1eda77a111a9252d9714b27617b4b6793875c85783dfe6", func := "loop.example/g00028/laws.FnExactGetTexts", spec := "fnExactGetTexts", apart := false, narrowed := true }
def FnExactGetTextsUptoSaid : Prop := fnExactGetTextsUptoRow.holds Try.pinned (OpenSpec.upto fnExactGetTextsSpec)

/-- 'laws.FnExactMultiWrite', WHERE WHAT IT READS IS OF BULK AT MOST 1048576: true; the input reads as it did. -/
def fnExactMultiWriteUptoRow : OpenClaim := { program := "ytpapcelgdcbolaa", sum := "2b5c503bcf4912bc9f1eda77a111a9252d9714b27617b4b6793875c85783dfe6", func := "loop.example/g00028/laws.FnExactMultiWrite", spec := "fnExactMultiWrite", apart := false, narrowed := true }
def FnExactMultiWriteUptoSaid : Prop := fnExactMultiWriteUptoRow.holds Try.pinned (OpenSpec.upto fnExactMultiWriteSpec)

/-- 'laws.FnValues', WHERE WHAT IT READS IS OF BULK AT MOST 1048576: true; the input reads as it did. -/
def fnValuesUptoRow : OpenClaim := { program := "ytpapcelgdcbolaa", sum := "2b5c503bcf4912bc9f1eda77a111a9252d9714b27617b4b6793875c85783dfe6", func := "loop.example/g00028/laws.FnValues", spec := "fnValues", apart := false, narrowed := true }
def FnValuesUptoSaid : Prop := fnValuesUptoRow.holds Try.pinned (OpenSpec.upto fnValuesSpec)

/-- 'laws.FnExactRowChanges', WHERE WHAT IT READS IS OF BULK AT MOST 1048576: true; the input reads as it did. -/
def fnExactRowChangesUptoRow : OpenClaim := { program := "ytpapcelgdcbolaa", sum := "2b5c503bcf4912bc9f1eda77a111a9252d9714b27617b4b6793875c85783dfe6", func := "loop.example/g00028/laws.FnExactRowChanges", spec := "fnExactRowChanges", apart := false, narrowed := true }
def FnExactRowChangesUptoSaid : Prop := fnExactRowChangesUptoRow.holds Try.pinned (OpenSpec.upto fnExactRowChangesSpec)

/-- 'laws.FnExactOpBytes', WHERE WHAT IT READS IS OF BULK AT MOST 1048576: true; the input reads as it did. -/
def fnExactOpBytesUptoRow : OpenClaim := { program := "ytpapcelgdcbolaa", sum := "2b5c503bcf4912bc9f1eda77a111a9252d9714b27617b4b6793875c85783dfe6", func := "loop.example/g00028/laws.FnExactOpBytes", spec := "fnExactOpBytes", recurses := true, apart := false, narrowed := true }
def FnExactOpBytesUptoSaid : Prop := fnExactOpBytesUptoRow.holds Try.pinned (OpenSpec.upto fnExactOpBytesSpec)

/-- 'laws.FnExactRecordBytes', WHERE WHAT IT READS IS OF BULK AT MOST 1048576: true; the input reads as it did. -/
def fnExactRecordBytesUptoRow : OpenClaim := { program := "ytpapcelgdcbolaa", sum := "2b5c503bcf4912bc9f1eda77a111a9252d9714b27617b4b6793875c85783dfe6", func := "loop.example/g00028/laws.FnExactRecordBytes", spec := "fnExactRecordBytes", recurses := true, apart := false, narrowed := true }
def FnExactRecordBytesUptoSaid : Prop := fnExactRecordBytesUptoRow.holds Try.pinned (OpenSpec.upto fnExactRecordBytesSpec)

/-- 'laws.FnBytes', WHERE WHAT IT READS IS OF BULK AT MOST 1048576: true; the input reads as it did. -/
def fnBytesUptoRow : OpenClaim := { program := "ytpapcelgdcbolaa", sum := "2b5c503bcf4912bc9f1eda77a111a9252d9714b27617b4b6793875c85783dfe6", func := "loop.example/g00028/laws.FnBytes", spec := "fnBytes", recurses := true, apart := false, narrowed := true }
def FnBytesUptoSaid : Prop := fnBytesUptoRow.holds Try.pinned (OpenSpec.upto fnBytesSpec)

end Rows
end Go.Proofs.Ytpapcelgdcbolaa
