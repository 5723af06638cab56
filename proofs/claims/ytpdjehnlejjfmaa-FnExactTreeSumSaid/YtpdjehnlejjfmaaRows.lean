/-
  No cell of these rows narrows 'for every input' (looked for: loops, veiled, ifaces, maps, wideKeys, modest, calm, conditions, laid).
  DERIVED. THE GIVEN ROWS OF THIS SEAT. 11 by the template 'for every input the law returns true; each argument reads behind the call as it read before'; 0 by the template 'total and deterministic' (their statements: YtpdjehnlejjfmaaTotals.lean).
  GIVEN WITH THE SEED: the statements are not yours to turn. If you find one false, say at which input.
  Laid BY PROGRAM, IN A SANDBOX (cutbox-rows.mjs): the forced cells as the released guide's own fill.sh prints them over the translation 4d024192f80289f6… (all of the seat's roots in one cut). By AI agents, Wed Nov 11 2026. No macro, syntax, notation, axiom, sorry.
-/
import Derived.Test.YtpdjehnlejjfmaaChecked
import GoSem.Claim
import GoSem.ClaimJoined
import GoSem.ClaimMapViews
import Derived.JoinedTies
import Derived.KernelRfl
namespace Go.Proofs.Ytpdjehnlejjfmaa
/- THE CELL 'sum', in the pinned program and in every row, IS THE sha256 OF THE DUMP (.gsa) THAT YtpdjehnlejjfmaaProg.lean LOADS. Nothing in Lean hashes anything: it is a label: what it is worth is what the hold of that sum in a sandbox is worth. -/
noncomputable def Try.pinned : Pinned := { name := "ytpdjehnlejjfmaa", sum := "4d024192f80289f65814dacaf520742f74595224ebcc319dc2e32ec630479ff5", checked := Try.checked }
namespace Rows
def none {H : Type} : Left H := { results := [], args := [] }

/-- 'laws.FnExactLogBytes': WHATEVER THE INPUT: true; the input reads as it did. -/
def fnExactLogBytesSpec : ChangeSpec := { name := "fnExactLogBytes", fn := fun _ => fun
  | [d] => { results := [.lit (.bool true)], args := [d] }
  | _ => none }
def fnExactLogBytesRow : OpenClaim := { program := "ytpdjehnlejjfmaa", sum := "4d024192f80289f65814dacaf520742f74595224ebcc319dc2e32ec630479ff5", func := "loop.example/g00028/laws.FnExactLogBytes", spec := "fnExactLogBytes", recurses := true, plainKeys := false, apart := false }
def FnExactLogBytesSaid : Prop := fnExactLogBytesRow.holds Try.pinned (OpenSpec.ofChange fnExactLogBytesSpec)

/-- ITS FALSE NEIGHBOUR: 'it returns false'. Refute it at one input. -/
def fnExactLogBytesWrong : ChangeSpec := { name := "fnExactLogBytes", fn := fun _ => fun
  | [d] => { results := [.lit (.bool false)], args := [d] }
  | _ => none }
def FnExactLogBytesWrongFalsely : Prop := fnExactLogBytesRow.holds Try.pinned (OpenSpec.ofChange fnExactLogBytesWrong)

/-- 'laws.FnExactTreeSum': WHATEVER THE INPUT: true; the input reads as it did. -/
def fnExactTreeSumSpec : ChangeSpec := { name := "fnExactTreeSum", fn := fun _ => fun
  | [d1, d2, d3, d4] => { results := [.lit (.bool true)], args := [d1, d2, d3, d4] }
  | _ => none }
def fnExactTreeSumRow : OpenClaim := { program := "ytpdjehnlejjfmaa", sum := "4d024192f80289f65814dacaf520742f74595224ebcc319dc2e32ec630479ff5", func := "loop.example/g00028/laws.FnExactTreeSum", spec := "fnExactTreeSum", recurses := true, plainKeys := false, apart := false }
def FnExactTreeSumSaid : Prop := fnExactTreeSumRow.holds Try.pinned (OpenSpec.ofChange fnExactTreeSumSpec)

/-- ITS FALSE NEIGHBOUR: 'it returns false'. Refute it at one input. -/
def fnExactTreeSumWrong : ChangeSpec := { name := "fnExactTreeSum", fn := fun _ => fun
  | [d1, d2, d3, d4] => { results := [.lit (.bool false)], args := [d1, d2, d3, d4] }
  | _ => none }
def FnExactTreeSumWrongFalsely : Prop := fnExactTreeSumRow.holds Try.pinned (OpenSpec.ofChange fnExactTreeSumWrong)

/-- 'laws.FnExactReadLog': WHATEVER THE INPUT: true; the input reads as it did. -/
def fnExactReadLogSpec : ChangeSpec := { name := "fnExactReadLog", fn := fun _ => fun
  | [d] => { results := [.lit (.bool true)], args := [d] }
  | _ => none }
def fnExactReadLogRow : OpenClaim := { program := "ytpdjehnlejjfmaa", sum := "4d024192f80289f65814dacaf520742f74595224ebcc319dc2e32ec630479ff5", func := "loop.example/g00028/laws.FnExactReadLog", spec := "fnExactReadLog", recurses := true, plainKeys := false, apart := false }
def FnExactReadLogSaid : Prop := fnExactReadLogRow.holds Try.pinned (OpenSpec.ofChange fnExactReadLogSpec)

/-- ITS FALSE NEIGHBOUR: 'it returns false'. Refute it at one input. -/
def fnExactReadLogWrong : ChangeSpec := { name := "fnExactReadLog", fn := fun _ => fun
  | [d] => { results := [.lit (.bool false)], args := [d] }
  | _ => none }
def FnExactReadLogWrongFalsely : Prop := fnExactReadLogRow.holds Try.pinned (OpenSpec.ofChange fnExactReadLogWrong)

/-- 'laws.FnSince': WHATEVER THE INPUT: true; the input reads as it did. -/
def fnSinceSpec : ChangeSpec := { name := "fnSince", fn := fun _ => fun
  | [d] => { results := [.lit (.bool true)], args := [d] }
  | _ => none }
def fnSinceRow : OpenClaim := { program := "ytpdjehnlejjfmaa", sum := "4d024192f80289f65814dacaf520742f74595224ebcc319dc2e32ec630479ff5", func := "loop.example/g00028/laws.FnSince", spec := "fnSince", plainKeys := false, apart := false }
def FnSinceSaid : Prop := fnSinceRow.holds Try.pinned (OpenSpec.ofChange fnSinceSpec)

/-- ITS FALSE NEIGHBOUR: 'it returns false'. Refute it at one input. -/
def fnSinceWrong : ChangeSpec := { name := "fnSince", fn := fun _ => fun
  | [d] => { results := [.lit (.bool false)], args := [d] }
  | _ => none }
def FnSinceWrongFalsely : Prop := fnSinceRow.holds Try.pinned (OpenSpec.ofChange fnSinceWrong)

/-- 'laws.FnMerge': WHATEVER THE INPUT: true; the input reads as it did. -/
def fnMergeSpec : ChangeSpec := { name := "fnMerge", fn := fun _ => fun
  | [d] => { results := [.lit (.bool true)], args := [d] }
  | _ => none }
def fnMergeRow : OpenClaim := { program := "ytpdjehnlejjfmaa", sum := "4d024192f80289f65814dacaf520742f74595224ebcc319dc2e32ec630479ff5", func := "loop.example/g00028/laws.FnMerge", spec := "fnMerge", plainKeys := false, apart := false }
def FnMergeSaid : Prop := fnMergeRow.holds Try.pinned (OpenSpec.ofChange fnMergeSpec)

/-- ITS FALSE NEIGHBOUR: 'it returns false'. Refute it at one input. -/
def fnMergeWrong : ChangeSpec := { name := "fnMerge", fn := fun _ => fun
  | [d] => { results := [.lit (.bool false)], args := [d] }
  | _ => none }
def FnMergeWrongFalsely : Prop := fnMergeRow.holds Try.pinned (OpenSpec.ofChange fnMergeWrong)

/-- 'laws.FnAgain': WHATEVER THE INPUT: true; the input reads as it did. -/
def fnAgainSpec : ChangeSpec := { name := "fnAgain", fn := fun _ => fun
  | [d] => { results := [.lit (.bool true)], args := [d] }
  | _ => none }
def fnAgainRow : OpenClaim := { program := "ytpdjehnlejjfmaa", sum := "4d024192f80289f65814dacaf520742f74595224ebcc319dc2e32ec630479ff5", func := "loop.example/g00028/laws.FnAgain", spec := "fnAgain", plainKeys := false, apart := false }
def FnAgainSaid : Prop := fnAgainRow.holds Try.pinned (OpenSpec.ofChange fnAgainSpec)

/-- ITS FALSE NEIGHBOUR: 'it returns false'. Refute it at one input. -/
def fnAgainWrong : ChangeSpec := { name := "fnAgain", fn := fun _ => fun
  | [d] => { results := [.lit (.bool false)], args := [d] }
  | _ => none }
def FnAgainWrongFalsely : Prop := fnAgainRow.holds Try.pinned (OpenSpec.ofChange fnAgainWrong)

/-- 'laws.FnLog': WHATEVER THE INPUT: true; the input reads as it did. -/
def fnLogSpec : ChangeSpec := { name := "fnLog", fn := fun _ => fun
  | [d1, d2] => { results := [.lit (.bool true)], args := [d1, d2] }
  | _ => none }
def fnLogRow : OpenClaim := { program := "ytpdjehnlejjfmaa", sum := "4d024192f80289f65814dacaf520742f74595224ebcc319dc2e32ec630479ff5", func := "loop.example/g00028/laws.FnLog", spec := "fnLog", plainKeys := false, apart := false }
def FnLogSaid : Prop := fnLogRow.holds Try.pinned (OpenSpec.ofChange fnLogSpec)

/-- ITS FALSE NEIGHBOUR: 'it returns false'. Refute it at one input. -/
def fnLogWrong : ChangeSpec := { name := "fnLog", fn := fun _ => fun
  | [d1, d2] => { results := [.lit (.bool false)], args := [d1, d2] }
  | _ => none }
def FnLogWrongFalsely : Prop := fnLogRow.holds Try.pinned (OpenSpec.ofChange fnLogWrong)

/-- 'laws.FnExactReadRecords': WHATEVER THE INPUT: true; the input reads as it did. -/
def fnExactReadRecordsSpec : ChangeSpec := { name := "fnExactReadRecords", fn := fun _ => fun
  | [d] => { results := [.lit (.bool true)], args := [d] }
  | _ => none }
def fnExactReadRecordsRow : OpenClaim := { program := "ytpdjehnlejjfmaa", sum := "4d024192f80289f65814dacaf520742f74595224ebcc319dc2e32ec630479ff5", func := "loop.example/g00028/laws.FnExactReadRecords", spec := "fnExactReadRecords", recurses := true, plainKeys := false, apart := false }
def FnExactReadRecordsSaid : Prop := fnExactReadRecordsRow.holds Try.pinned (OpenSpec.ofChange fnExactReadRecordsSpec)

/-- ITS FALSE NEIGHBOUR: 'it returns false'. Refute it at one input. -/
def fnExactReadRecordsWrong : ChangeSpec := { name := "fnExactReadRecords", fn := fun _ => fun
  | [d] => { results := [.lit (.bool false)], args := [d] }
  | _ => none }
def FnExactReadRecordsWrongFalsely : Prop := fnExactReadRecordsRow.holds Try.pinned (OpenSpec.ofChange fnExactReadRecordsWrong)

/-- 'laws.FnRecords': WHATEVER THE INPUT: true; the input reads as it did. -/
def fnRecordsSpec : ChangeSpec := { name := "fnRecords", fn := fun _ => fun
  | [d1, d2] => { results := [.lit (.bool true)], args := [d1, d2] }
  | _ => none }
def fnRecordsRow : OpenClaim := { program := "ytpdjehnlejjfmaa", sum := "4d024192f80289f65814dacaf520742f74595224ebcc319dc2e32ec630479ff5", func := "loop.example/g00028/laws.FnRecords", spec := "fnRecords", recurses := true, plainKeys := false, apart := false }
def FnRecordsSaid : Prop := fnRecordsRow.holds Try.pinned (OpenSpec.ofChange fnRecordsSpec)

/-- ITS FALSE NEIGHBOUR: 'it returns false'. Refute it at one input. -/
def fnRecordsWrong : ChangeSpec := { name := "fnRecords", fn := fun _ => fun
  | [d1, d2] => { results := [.lit (.bool false)], args := [d1, d2] }
  | _ => none }
def FnRecordsWrongFalsely : Prop := fnRecordsRow.holds Try.pinned (OpenSpec.ofChange fnRecordsWrong)

/-- 'laws.FnThief': WHATEVER THE INPUT: true; the input reads as it did. -/
def fnThiefSpec : ChangeSpec := { name := "fnThief", fn := fun _ => fun
  | [d] => { results := [.lit (.bool true)], args := [d] }
  | _ => none }
def fnThiefRow : OpenClaim := { program := "ytpdjehnlejjfmaa", sum := "4d024192f80289f65814dacaf520742f74595224ebcc319dc2e32ec630479ff5", func := "loop.example/g00028/laws.FnThief", spec := "fnThief", plainKeys := false, apart := false }
def FnThiefSaid : Prop := fnThiefRow.holds Try.pinned (OpenSpec.ofChange fnThiefSpec)

/-- ITS FALSE NEIGHBOUR: 'it returns false'. Refute it at one input. -/
def fnThiefWrong : ChangeSpec := { name := "fnThief", fn := fun _ => fun
  | [d] => { results := [.lit (.bool false)], args := [d] }
  | _ => none }
def FnThiefWrongFalsely : Prop := fnThiefRow.holds Try.pinned (OpenSpec.ofChange fnThiefWrong)

/-- 'laws.FnValues': WHATEVER THE INPUT: true; the input reads as it did. -/
def fnValuesSpec : ChangeSpec := { name := "fnValues", fn := fun _ => fun
  | [d1, d2] => { results := [.lit (.bool true)], args := [d1, d2] }
  | _ => none }
def fnValuesRow : OpenClaim := { program := "ytpdjehnlejjfmaa", sum := "4d024192f80289f65814dacaf520742f74595224ebcc319dc2e32ec630479ff5", func := "loop.example/g00028/laws.FnValues", spec := "fnValues", plainKeys := false, apart := false }
def FnValuesSaid : Prop := fnValuesRow.holds Try.pinned (OpenSpec.ofChange fnValuesSpec)

/-- ITS FALSE NEIGHBOUR: 'it returns false'. Refute it at one input. -/
def fnValuesWrong : ChangeSpec := { name := "fnValues", fn := fun _ => fun
  | [d1, d2] => { results := [.lit (.bool false)], args := [d1, d2] }
  | _ => none }
def FnValuesWrongFalsely : Prop := fnValuesRow.holds Try.pinned (OpenSpec.ofChange fnValuesWrong)

/- THE SECOND FORM. 'bulk': how many values and letters a reading holds, each counted each time it is reached (what is shared counts as often as it is met; a slice's spare places count too). A statement '..UptoSaid' is the law's where the arguments, and the package variables that the reading takes, are together of bulk at most 1048576: NARROWER than '..Said'. Prove '..Said' where nothing that the law and all that it calls make is longer than what came in: it says more and counts as full. Else prove '..UptoSaid'. A law counts once. -/
mutual
def uptoBulk {H : Type} : DataW H → Nat
  | .lit (.string bytes) => bytes.length + 1
  | .lit _ => 1
  | .nil => 1
  | .ptr d => uptoBulk d + 1
  | .slice elems spare => uptoBulkAll elems + uptoBulkAll spare + 1
  | .agg parts => uptoBulkAll parts + 1
  | .iface _ d => uptoBulk d + 1
  | .map entries => uptoBulkEntries entries + 1
  | .held _ => 1
def uptoBulkAll {H : Type} : List (DataW H) → Nat
  | [] => 0
  | d :: r => uptoBulk d + uptoBulkAll r
def uptoBulkEntries {H : Type} : List (Lit × DataW H) → Nat
  | [] => 0
  | x :: r => uptoBulkEntry x + uptoBulkEntries r
def uptoBulkEntry {H : Type} : Lit × DataW H → Nat
  | (.string bytes, d) => bytes.length + uptoBulk d + 1
  | (_, d) => uptoBulk d + 1
 end
def uptoSmall : (H : Type) → List (DataW H) → Bool := fun _ ds => decide (uptoBulkAll ds ≤ 1048576)
def OpenSpec.upto (s : _root_.Go.ChangeSpec) : _root_.Go.OpenSpec := { _root_.Go.OpenSpec.ofChange s with cond := some uptoSmall }

/-- 'laws.FnExactLogBytes', WHERE WHAT IT READS IS OF BULK AT MOST 1048576: true; the input reads as it did. -/
def fnExactLogBytesUptoRow : OpenClaim := { program := "ytpdjehnlejjfmaa", sum := "4d024192f80289f65814dacaf520742f74595224ebcc319dc2e32ec630479ff5", func := "loop.example/g00028/laws.FnExactLogBytes", spec := "fnExactLogBytes", recurses := true, plainKeys := false, apart := false, narrowed := true }
def FnExactLogBytesUptoSaid : Prop := fnExactLogBytesUptoRow.holds Try.pinned (OpenSpec.upto fnExactLogBytesSpec)

/-- 'laws.FnExactTreeSum', WHERE WHAT IT READS IS OF BULK AT MOST 1048576: true; the input reads as it did. -/
def fnExactTreeSumUptoRow : OpenClaim := { program := "ytpdjehnlejjfmaa", sum := "4d024192f80289f65814dacaf520742f74595224ebcc319dc2e32ec630479ff5", func := "loop.example/g00028/laws.FnExactTreeSum", spec := "fnExactTreeSum", recurses := true, plainKeys := false, apart := false, narrowed := true }
def FnExactTreeSumUptoSaid : Prop := fnExactTreeSumUptoRow.holds Try.pinned (OpenSpec.upto fnExactTreeSumSpec)

/-- 'laws.FnExactReadLog', WHERE WHAT IT READS IS OF BULK AT MOST 1048576: true; the input reads as it did. -/
def fnExactReadLogUptoRow : OpenClaim := { program := "ytpdjehnlejjfmaa", sum := "4d024192f80289f65814dacaf520742f74595224ebcc319dc2e32ec630479ff5", func := "loop.example/g00028/laws.FnExactReadLog", spec := "fnExactReadLog", recurses := true, plainKeys := false, apart := false, narrowed := true }
def FnExactReadLogUptoSaid : Prop := fnExactReadLogUptoRow.holds Try.pinned (OpenSpec.upto fnExactReadLogSpec)

/-- 'laws.FnSince', WHERE WHAT IT READS IS OF BULK AT MOST 1048576: true; the input reads as it did. -/
def fnSinceUptoRow : OpenClaim := { program := "ytpdjehnlejjfmaa", sum := "4d024192f80289f65814dacaf520742f74595224ebcc319dc2e32ec630479ff5", func := "loop.example/g00028/laws.FnSince", spec := "fnSince", plainKeys := false, apart := false, narrowed := true }
def FnSinceUptoSaid : Prop := fnSinceUptoRow.holds Try.pinned (OpenSpec.upto fnSinceSpec)

/-- 'laws.FnMerge', WHERE WHAT IT READS IS OF BULK AT MOST 1048576: true; the input reads as it did. -/
def fnMergeUptoRow : OpenClaim := { program := "ytpdjehnlejjfmaa", sum := "4d024192f80289f65814dacaf520742f74595224ebcc319dc2e32ec630479ff5", func := "loop.example/g00028/laws.FnMerge", spec := "fnMerge", plainKeys := false, apart := false, narrowed := true }
def FnMergeUptoSaid : Prop := fnMergeUptoRow.holds Try.pinned (OpenSpec.upto fnMergeSpec)

/-- 'laws.FnAgain', WHERE WHAT IT READS IS OF BULK AT MOST 1048576: true; the input reads as it did. -/
def fnAgainUptoRow : OpenClaim := { program := "ytpdjehnlejjfmaa", sum := "4d024192f80289f65814dacaf520742f74595224ebcc319dc2e32ec630479ff5", func := "loop.example/g00028/laws.FnAgain", spec := "fnAgain", plainKeys := false, apart := false, narrowed := true }
def FnAgainUptoSaid : Prop := fnAgainUptoRow.holds Try.pinned (OpenSpec.upto fnAgainSpec)

/-- 'laws.FnLog', WHERE WHAT IT READS IS OF BULK AT MOST 1048576: true; the input reads as it did. -/
def fnLogUptoRow : OpenClaim := { program := "ytpdjehnlejjfmaa", sum := "4d024192f80289f65814dacaf520742f74595224ebcc319dc2e32ec630479ff5", func := "loop.example/g00028/laws.FnLog", spec := "fnLog", plainKeys := false, apart := false, narrowed := true }
def FnLogUptoSaid : Prop := fnLogUptoRow.holds Try.pinned (OpenSpec.upto fnLogSpec)

/-- 'laws.FnExactReadRecords', WHERE WHAT IT READS IS OF BULK AT MOST 1048576: true; the input reads as it did. -/
def fnExactReadRecordsUptoRow : OpenClaim := { program := "ytpdjehnlejjfmaa", sum := "4d024192f80289f65814dacaf520742f74595224ebcc319dc2e32ec630479ff5", func := "loop.example/g00028/laws.FnExactReadRecords", spec := "fnExactReadRecords", recurses := true, plainKeys := false, apart := false, narrowed := true }
def FnExactReadRecordsUptoSaid : Prop := fnExactReadRecordsUptoRow.holds Try.pinned (OpenSpec.upto fnExactReadRecordsSpec)

/-- 'laws.FnRecords', WHERE WHAT IT READS IS OF BULK AT MOST 1048576: true; the input reads as it did. -/
def fnRecordsUptoRow : OpenClaim := { program := "ytpdjehnlejjfmaa", sum := "4d024192f80289f65814dacaf520742f74595224ebcc319dc2e32ec630479ff5", func := "loop.example/g00028/laws.FnRecords", spec := "fnRecords", recurses := true, plainKeys := false, apart := false, narrowed := true }
def FnRecordsUptoSaid : Prop := fnRecordsUptoRow.holds Try.pinned (OpenSpec.upto fnRecordsSpec)

/-- 'laws.FnThief', WHERE WHAT IT READS IS OF BULK AT MOST 1048576: true; the input reads as it did. -/
def fnThiefUptoRow : OpenClaim := { program := "ytpdjehnlejjfmaa", sum := "4d024192f80289f65814dacaf520742f74595224ebcc319dc2e32ec630479ff5", func := "loop.example/g00028/laws.FnThief", spec := "fnThief", plainKeys := false, apart := false, narrowed := true }
def FnThiefUptoSaid : Prop := fnThiefUptoRow.holds Try.pinned (OpenSpec.upto fnThiefSpec)

/-- 'laws.FnValues', WHERE WHAT IT READS IS OF BULK AT MOST 1048576: true; the input reads as it did. -/
def fnValuesUptoRow : OpenClaim := { program := "ytpdjehnlejjfmaa", sum := "4d024192f80289f65814dacaf520742f74595224ebcc319dc2e32ec630479ff5", func := "loop.example/g00028/laws.FnValues", spec := "fnValues", plainKeys := false, apart := false, narrowed := true }
def FnValuesUptoSaid : Prop := fnValuesUptoRow.holds Try.pinned (OpenSpec.upto fnValuesSpec)

end Rows
end Go.Proofs.Ytpdjehnlejjfmaa
