/- States of several entries as arguments. -/
import Derived.Test.YtoklfidamhigcaaEnt2
import Derived.Test.YtoklfidamhigcaaMul
namespace Go.Proofs.Ytoklfidamhigcaa.D
open Go.RowKit
set_option linter.unusedVariables false

abbrev MulT := (List Int × Unit) × List ((Int × Int × Unit) × List UInt8 × Unit) × Unit
def entOf (x : (Int × Int × Unit) × List UInt8 × Unit) : EntV := ⟨x.1.1, x.1.2.1, x.2.1⟩
def mulOf (x : MulT) : List Int × List EntV := (x.1.1, x.2.1.map entOf)
abbrev mulD (m : List Int × List EntV) : List DV := [.sl (m.1.map inD), .sl (m.2.map entD)]
abbrev mulIn (m : List Int × List EntV) : Prop := m.1.length ≤ 9223372036854775807 ∧ m.2.length ≤ 9223372036854775807 ∧ ∀ e ∈ m.2, e.x.length ≤ 9223372036854775807
theorem mulOf_e (x : MulT) : mulD (mulOf x) = [.sl (x.1.1.map inD), .sl (x.2.1.map fun y => entD (entOf y))] := by
  simp [mulD, mulOf, List.map_map, Function.comp_def]
theorem mulOf_ok (x : MulT) (h1 : x.1.1.length ≤ 9223372036854775807) (h2 : x.2.1.length ≤ 9223372036854775807) (h3 : ∀ y ∈ x.2.1, y.2.1.length ≤ 9223372036854775807) : mulIn (mulOf x) :=
  ⟨h1, by simpa [mulOf] using h2, fun e he => by
    obtain ⟨y, hy, rfl⟩ := List.mem_map.1 he
    exact h3 y hy⟩
end Go.Proofs.Ytoklfidamhigcaa.D
