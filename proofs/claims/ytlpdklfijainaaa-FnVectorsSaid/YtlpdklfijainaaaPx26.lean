-- printed by wip/tools/myprint.py, a program of this session's own that drives the kit's printer
import Derived.Test.YtlpdklfijainaaaPx0
import Derived.Test.YtlpdklfijainaaaPx3
import Derived.Test.YtlpdklfijainaaaPx23
import Derived.Test.YtlpdklfijainaaaPx25
namespace Go.Proofs.Ytlpdklfijainaaa.P
open Go.RowKit Go.Proofs.YtlpdklfijainaaaW.PrintWords Go.Proofs.YtlpdklfijainaaaW.PrintLast Go.Proofs.YtlpdklfijainaaaW.PrintMore
attribute [local go_sem] max2_int min2_int max_two min_two max_three min_three max_four min_four   -- for this text's walks alone
set_option linter.unusedVariables false
set_option linter.unusedSimpArgs false

/-! ### spec_l02DrawTwo: function 57 -/
def spec_l02DrawTwo.f (k : Nat) (l0 : List Int) : Option (List Int × List Int) := (spec_l01Source.f l0).bind fun bt613 => ((spec_l01Src_oddVector.f k bt613.1 bt613.2.1 bt613.2.2).bind fun bt617 => ((spec_l01Src_oddVector.f k bt613.1 bt617.2.1 bt617.2.2).bind fun bt623 => ((spec_l01Src_next.f bt613.1 bt623.2.1 bt623.2.2 4).bind fun bt629 => (if bt629.1 = 0 then ((spec_l02Copy.f bt617.1).bind fun t632 => (some (bt617.1, t632))) else (if bt629.1 = 1 then ((spec_l02Copy.f bt617.1).bind fun t635 => (if (t635.length : Int) > 0 then ((spec_l01Src_next.f bt613.1 bt629.2.1 bt629.2.2 (t635.length : Int)).bind fun bt638 => (if 0 ≤ bt638.1 then (if bt638.1 < (t635.length : Int) then (some (bt617.1, (t635.set (bt638.1 : Int).toNat (wrap64 ((rd t635 bt638.1) + 1))))) else (none)) else (none))) else (some (bt617.1, t635)))) else (some (bt617.1, bt623.1)))))))
theorem spec_l02DrawTwo.mono : ∀ a0 k, LeO (spec_l02DrawTwo.f k a0) (spec_l02DrawTwo.f (k + 1) a0) := by
  intro a0 k
  unfold spec_l02DrawTwo.f
  repeat' first
      | (with_reducible exact spec_l01Src_oddVector.mono _ _ _ _)
      | (with_reducible exact LeO.refl _)
      | (with_reducible exact LeO.none _)
      | (with_reducible refine LeO.ite ?_ ?_)
      | (with_reducible refine LeO.bind ?_ (fun _ => ?_))
      | exact spec_l01Src_oddVector.mono _ _ _ _
      | exact LeO.none _
      | refine LeO.ite ?_ ?_
      | refine LeO.bind ?_ (fun _ => ?_)
def spec_l02DrawTwo.T10 : Bool × List (List Nat × List Nat) := (true, [([], []), ([0], [0]), ([], []), ([], []), ([3], [3]), ([4], [4]), ([2, 5], [2, 5]), ([1, 6], [1, 6]), ([7], [7]), ([8], [8]), ([1, 6, 0, 1, 2, 3, 4, 5, 6, 7, 8, 9], [1, 6]), ([10, 9, 6, 0, 1, 2, 3, 4, 5, 6, 7, 8, 9], [9, 10])])
def spec_l02DrawTwo.B10 : List Nat := [0, 1, 0, 0, 8, 24, 60, 127, 255, 511, 1023, 2047]
theorem spec_l02DrawTwo.tab10 : rtab .any (opsOf Try.f57 10) = spec_l02DrawTwo.T10 := by kernel_rfl
theorem spec_l02DrawTwo.bits10 : waitsOk spec_l02DrawTwo.T10.2 spec_l02DrawTwo.B10 = true := by kernel_rfl

end Go.Proofs.Ytlpdklfijainaaa.P
