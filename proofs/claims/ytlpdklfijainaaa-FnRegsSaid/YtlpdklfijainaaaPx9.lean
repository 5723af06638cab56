-- printed by wip/tools/myprint.py, a program of this session's own that drives the kit's printer
import Derived.Test.YtlpdklfijainaaaPx0
import Derived.Test.YtlpdklfijainaaaPx2
import Derived.Test.YtlpdklfijainaaaPx5
import Derived.Test.YtlpdklfijainaaaPx6
import Derived.Test.YtlpdklfijainaaaPx8
namespace Go.Proofs.Ytlpdklfijainaaa.P
open Go.RowKit Go.Proofs.YtlpdklfijainaaaW.PrintWords Go.Proofs.YtlpdklfijainaaaW.PrintLast Go.Proofs.YtlpdklfijainaaaW.PrintMore
attribute [local go_sem] max2_int min2_int max_two min_two max_three min_three max_four min_four   -- for this text's walks alone
set_option linter.unusedVariables false
set_option linter.unusedSimpArgs false

attribute [local go_sem high] eqA26
/-! ### laws_FnRegs: function 3 -/
mutual
def laws_FnRegs.j0 : Nat → List Int → List Int → Bool → Option (Bool)
  | 0, _, _, _ => none
  | k + 1, x0, x1, x30 => if x30 = true then (some true) else ((spec_DrawRegJoin.f x0).bind fun bt227 => ((spec_DrawRegJoin.f x1).bind fun bt235 => ((impl_RegJoin.f k bt227.1 bt227.2.1 bt227.2.2.1 bt227.2.2.2.1 bt227.2.2.2.2.1 bt227.2.2.2.2.2).bind fun bt243 => ((spec_RegJoin.f k bt227.1 bt227.2.1 bt227.2.2.1 bt227.2.2.2.1 bt227.2.2.2.2.1 bt227.2.2.2.2.2).bind fun bt248 => (if bt243.2.2.2 = bt248.2.2.2 then (laws_FnRegs.j1 k bt243.2.2.2 ((!(bt243.1 == bt248.1) || (!(bt243.2.1 == bt248.2.1))) || (!(bt243.2.2.1.toList == bt248.2.2.1.toList))) bt227.1 bt227.2.1 bt227.2.2.1 bt227.2.2.2.1 bt227.2.2.2.2.1 bt227.2.2.2.2.2 bt235.1 bt235.2.1 bt235.2.2.1 bt243.1 bt243.2.1 bt243.2.2.1) else (laws_FnRegs.j1 k bt243.2.2.2 true bt227.1 bt227.2.1 bt227.2.2.1 bt227.2.2.2.1 bt227.2.2.2.2.1 bt227.2.2.2.2.2 bt235.1 bt235.2.1 bt235.2.2.1 bt243.1 bt243.2.1 bt243.2.2.1))))))
def laws_FnRegs.j1 : Nat → Int → Bool → Int → Int → ByteArray → Int → Int → ByteArray → Int → Int → ByteArray → Int → Int → ByteArray → Option (Bool)
  | 0, _, _, _, _, _, _, _, _, _, _, _, _, _, _ => none
  | k + 1, x10, x60, x234000, x234001, x234002, x235000, x235001, x235002, x242000, x242001, x242002, x248000, x248001, x248002 => if x60 = true then (some false) else ((impl_RegJoin.f k x235000 x235001 x235002 x234000 x234001 x234002).bind fun bt253 => (if x10 = 0 then (if ((!(bt253.1 == x248000) || (!(bt253.2.1 == x248001))) || (!(bt253.2.2.1.toList == x248002.toList))) = true then (laws_FnRegs.j2 k true x234000 x234001 x234002 x235000 x235001 x235002 x242000 x242001 x242002 x248000 x248001 x248002) else (if ((!(x248000 == x234000) || (!(x248001 == x234001))) || (!(x248002.toList == x234002.toList))) = true then (laws_FnRegs.j2 k ((!(x248000 == x235000) || (!(x248001 == x235001))) || (!(x248002.toList == x235002.toList))) x234000 x234001 x234002 x235000 x235001 x235002 x242000 x242001 x242002 x248000 x248001 x248002) else (laws_FnRegs.j2 k false x234000 x234001 x234002 x235000 x235001 x235002 x242000 x242001 x242002 x248000 x248001 x248002))) else (some (bt253.2.2.2 == x10))))
def laws_FnRegs.j2 : Nat → Bool → Int → Int → ByteArray → Int → Int → ByteArray → Int → Int → ByteArray → Int → Int → ByteArray → Option (Bool)
  | 0, _, _, _, _, _, _, _, _, _, _, _, _, _ => none
  | k + 1, x84, x234000, x234001, x234002, x235000, x235001, x235002, x242000, x242001, x242002, x248000, x248001, x248002 => if x84 = true then (some false) else ((impl_RegJoin.f k x235000 x235001 x235002 x242000 x242001 x242002).bind fun bt258 => ((spec_RegJoin.f k x235000 x235001 x235002 x242000 x242001 x242002).bind fun bt263 => (if bt258.2.2.2 = bt263.2.2.2 then (if bt263.2.2.2 = 0 then ((impl_RegJoin.f k x248000 x248001 x248002 x242000 x242001 x242002).bind fun bt268 => ((impl_RegJoin.f k x234000 x234001 x234002 bt258.1 bt258.2.1 bt258.2.2.1).bind fun bt273 => (if bt268.2.2.2 = 0 then (if bt273.2.2.2 = 0 then (some ((bt268.1 == bt273.1 && (bt268.2.1 == bt273.2.1)) && (bt268.2.2.1.toList == bt273.2.2.1.toList))) else (some false)) else (some false)))) else (some true)) else (some false))))
end
def laws_FnRegs.f (k : Nat) (l0 : List Int) (l1 : List Int) : Option (Bool) := if (l0.length : Int) > 1048576 then (laws_FnRegs.j0 k l0 l1 true) else (laws_FnRegs.j0 k l0 l1 (decide ((l1.length : Int) > 1048576)))
theorem laws_FnRegs.mono_l : ∀ k, (∀ y0 y1 y2, LeO (laws_FnRegs.j0 k y0 y1 y2) (laws_FnRegs.j0 (k + 1) y0 y1 y2)) ∧ (∀ y0 y1 y2 y3 y4 y5 y6 y7 y8 y9 y10 y11 y12 y13, LeO (laws_FnRegs.j1 k y0 y1 y2 y3 y4 y5 y6 y7 y8 y9 y10 y11 y12 y13) (laws_FnRegs.j1 (k + 1) y0 y1 y2 y3 y4 y5 y6 y7 y8 y9 y10 y11 y12 y13)) ∧ (∀ y0 y1 y2 y3 y4 y5 y6 y7 y8 y9 y10 y11 y12, LeO (laws_FnRegs.j2 k y0 y1 y2 y3 y4 y5 y6 y7 y8 y9 y10 y11 y12) (laws_FnRegs.j2 (k + 1) y0 y1 y2 y3 y4 y5 y6 y7 y8 y9 y10 y11 y12))
  | 0 => ⟨fun _ _ _ r h => by simp [laws_FnRegs.j0] at h, fun _ _ _ _ _ _ _ _ _ _ _ _ _ _ r h => by simp [laws_FnRegs.j1] at h, fun _ _ _ _ _ _ _ _ _ _ _ _ _ r h => by simp [laws_FnRegs.j2] at h⟩
  | k + 1 => by
    obtain ⟨ih0, ih1, ih2⟩ := laws_FnRegs.mono_l k
    refine ⟨?_, ?_, ?_⟩
    · intro y0 y1 y2
      unfold laws_FnRegs.j0
      repeat' first
      | (with_reducible exact ih0 _ _ _)
      | (with_reducible exact ih1 _ _ _ _ _ _ _ _ _ _ _ _ _ _)
      | (with_reducible exact ih2 _ _ _ _ _ _ _ _ _ _ _ _ _)
      | (with_reducible exact impl_RegJoin.mono _ _ _ _ _ _ _)
      | (with_reducible exact spec_RegJoin.mono _ _ _ _ _ _ _)
      | (with_reducible exact LeO.refl _)
      | (with_reducible exact LeO.none _)
      | (with_reducible refine LeO.ite ?_ ?_)
      | (with_reducible refine LeO.bind ?_ (fun _ => ?_))
      | exact ih0 _ _ _
      | exact ih1 _ _ _ _ _ _ _ _ _ _ _ _ _ _
      | exact ih2 _ _ _ _ _ _ _ _ _ _ _ _ _
      | exact impl_RegJoin.mono _ _ _ _ _ _ _
      | exact spec_RegJoin.mono _ _ _ _ _ _ _
      | exact LeO.none _
      | refine LeO.ite ?_ ?_
      | refine LeO.bind ?_ (fun _ => ?_)
    · intro y0 y1 y2 y3 y4 y5 y6 y7 y8 y9 y10 y11 y12 y13
      unfold laws_FnRegs.j1
      repeat' first
      | (with_reducible exact ih0 _ _ _)
      | (with_reducible exact ih1 _ _ _ _ _ _ _ _ _ _ _ _ _ _)
      | (with_reducible exact ih2 _ _ _ _ _ _ _ _ _ _ _ _ _)
      | (with_reducible exact impl_RegJoin.mono _ _ _ _ _ _ _)
      | (with_reducible exact spec_RegJoin.mono _ _ _ _ _ _ _)
      | (with_reducible exact LeO.refl _)
      | (with_reducible exact LeO.none _)
      | (with_reducible refine LeO.ite ?_ ?_)
      | (with_reducible refine LeO.bind ?_ (fun _ => ?_))
      | exact ih0 _ _ _
      | exact ih1 _ _ _ _ _ _ _ _ _ _ _ _ _ _
      | exact ih2 _ _ _ _ _ _ _ _ _ _ _ _ _
      | exact impl_RegJoin.mono _ _ _ _ _ _ _
      | exact spec_RegJoin.mono _ _ _ _ _ _ _
      | exact LeO.none _
      | refine LeO.ite ?_ ?_
      | refine LeO.bind ?_ (fun _ => ?_)
    · intro y0 y1 y2 y3 y4 y5 y6 y7 y8 y9 y10 y11 y12
      unfold laws_FnRegs.j2
      repeat' first
      | (with_reducible exact ih0 _ _ _)
      | (with_reducible exact ih1 _ _ _ _ _ _ _ _ _ _ _ _ _ _)
      | (with_reducible exact ih2 _ _ _ _ _ _ _ _ _ _ _ _ _)
      | (with_reducible exact impl_RegJoin.mono _ _ _ _ _ _ _)
      | (with_reducible exact spec_RegJoin.mono _ _ _ _ _ _ _)
      | (with_reducible exact LeO.refl _)
      | (with_reducible exact LeO.none _)
      | (with_reducible refine LeO.ite ?_ ?_)
      | (with_reducible refine LeO.bind ?_ (fun _ => ?_))
      | exact ih0 _ _ _
      | exact ih1 _ _ _ _ _ _ _ _ _ _ _ _ _ _
      | exact ih2 _ _ _ _ _ _ _ _ _ _ _ _ _
      | exact impl_RegJoin.mono _ _ _ _ _ _ _
      | exact spec_RegJoin.mono _ _ _ _ _ _ _
      | exact LeO.none _
      | refine LeO.ite ?_ ?_
      | refine LeO.bind ?_ (fun _ => ?_)
theorem laws_FnRegs.mono : ∀ a0 a1 k, LeO (laws_FnRegs.f k a0 a1) (laws_FnRegs.f (k + 1) a0 a1) := by
  intro a0 a1 k
  obtain ⟨ih0, ih1, ih2⟩ := laws_FnRegs.mono_l k
  unfold laws_FnRegs.f
  repeat' first
      | (with_reducible exact ih0 _ _ _)
      | (with_reducible exact ih1 _ _ _ _ _ _ _ _ _ _ _ _ _ _)
      | (with_reducible exact ih2 _ _ _ _ _ _ _ _ _ _ _ _ _)
      | (with_reducible exact impl_RegJoin.mono _ _ _ _ _ _ _)
      | (with_reducible exact spec_RegJoin.mono _ _ _ _ _ _ _)
      | (with_reducible exact LeO.refl _)
      | (with_reducible exact LeO.none _)
      | (with_reducible refine LeO.ite ?_ ?_)
      | (with_reducible refine LeO.bind ?_ (fun _ => ?_))
      | exact ih0 _ _ _
      | exact ih1 _ _ _ _ _ _ _ _ _ _ _ _ _ _
      | exact ih2 _ _ _ _ _ _ _ _ _ _ _ _ _
      | exact impl_RegJoin.mono _ _ _ _ _ _ _
      | exact spec_RegJoin.mono _ _ _ _ _ _ _
      | exact LeO.none _
      | refine LeO.ite ?_ ?_
      | refine LeO.bind ?_ (fun _ => ?_)

end Go.Proofs.Ytlpdklfijainaaa.P
