/- Operations as arguments. -/
import Derived.Test.YtoklfidamhigcaaEnt2
import Derived.Test.YtoklfidamhigcaaOp
namespace Go.Proofs.Ytoklfidamhigcaa.D
open Go.RowKit
set_option linter.unusedVariables false

abbrev OpT := Int × Int × Int × (List Int × Unit) × Int × Int × Int × Int × (Int × Int × Unit) × List UInt8 × List UInt8 × Unit
def opOf (x : OpT) : OpV := ⟨x.1, x.2.1, x.2.2.1, x.2.2.2.1.1, x.2.2.2.2.1, x.2.2.2.2.2.1, x.2.2.2.2.2.2.1, x.2.2.2.2.2.2.2.1, x.2.2.2.2.2.2.2.2.1.1, x.2.2.2.2.2.2.2.2.1.2.1, x.2.2.2.2.2.2.2.2.2.1, x.2.2.2.2.2.2.2.2.2.2.1⟩
/-- The lengths of an operation that is an argument. -/
abbrev opIn (o : OpV) : Prop := o.deps.length ≤ 9223372036854775807 ∧ o.key.length ≤ 9223372036854775807 ∧ o.text.length ≤ 9223372036854775807
end Go.Proofs.Ytoklfidamhigcaa.D
