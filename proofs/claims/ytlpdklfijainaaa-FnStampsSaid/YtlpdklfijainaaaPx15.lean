-- printed by wip/tools/myprint.py, a program of this session's own that drives the kit's printer
import Derived.Test.YtlpdklfijainaaaPx0
import Derived.Test.YtlpdklfijainaaaPx1
import Derived.Test.YtlpdklfijainaaaPx5
import Derived.Test.YtlpdklfijainaaaPx7
import Derived.Test.YtlpdklfijainaaaPx11
import Derived.Test.YtlpdklfijainaaaPx13
import Derived.Test.YtlpdklfijainaaaPx14
namespace Go.Proofs.Ytlpdklfijainaaa.P
open Go.RowKit Go.Proofs.YtlpdklfijainaaaW.PrintWords Go.Proofs.YtlpdklfijainaaaW.PrintLast Go.Proofs.YtlpdklfijainaaaW.PrintMore
attribute [local go_sem] max2_int min2_int max_two min_two max_three min_three max_four min_four   -- for this text's walks alone
set_option linter.unusedVariables false
set_option linter.unusedSimpArgs false

attribute [local go_sem high] eqA24
/-! ### laws_FnStamps: function 4 -/
mutual
def laws_FnStamps.j0 : Nat → List Int → Bool → Option (Bool)
  | 0, _, _ => none
  | k + 1, x0, x52 => if x52 = true then (some false) else ((spec_DrawStampNext.f k x0).bind fun bt373 => ((impl_StampNext.f k bt373.1 bt373.2).bind fun bt377 => ((spec_StampNext.f k bt373.1 bt373.2).bind fun bt381 => (if bt377.2.2 = bt381.2.2 then (if bt377.2.2 = 0 then (laws_FnStamps.l0 k bt373.1 bt373.2 true 0 bt377.1 bt377.2.1 (wrap64 (bt377.1 - 1)) bt373.2) else (some true)) else (some false)))))
def laws_FnStamps.l0 : Nat → List (S24) → Int → Bool → Int → Int → Int → Int → Int → Option (Bool)
  | 0, _, _, _, _, _, _, _, _ => none
  | k + 1, x5, x6, x12, x13, x381000, x381001, x386000, x386001 => if x13 < (x5.length : Int) then (if 0 ≤ x13 then ((spec_StampLess.f ((rd_T24 x5 x13).f0) ((rd_T24 x5 x13).f1) x381000 x381001).bind fun t388 => (if t388 = true then (if x12 = true then ((spec_StampLess.f ((rd_T24 x5 x13).f0) ((rd_T24 x5 x13).f1) x386000 x386001).bind fun t390 => (laws_FnStamps.l0 k x5 x6 t390 (wrap64 (x13 + 1)) x381000 x381001 x386000 x386001)) else (laws_FnStamps.l0 k x5 x6 false (wrap64 (x13 + 1)) x381000 x381001 x386000 x386001)) else (some false))) else (none)) else (if x381001 = x6 then ((spec_StampOK.f x381000 x381001).bind fun t386 => (if t386 = true then (if x381000 = 1 then (some true) else (some (!x12))) else (some false))) else (some false))
end
def laws_FnStamps.f (k : Nat) (l0 : List Int) : Option (Bool) := if (l0.length : Int) > 1048576 then (some true) else ((spec_DrawStampLess.f l0).bind fun bt362 => ((impl_StampLess.f bt362.1 bt362.2.1 bt362.2.2.1 bt362.2.2.2).bind fun t368 => ((spec_StampLess.f bt362.1 bt362.2.1 bt362.2.2.1 bt362.2.2.2).bind fun t369 => (if (t368 != t369) = true then (laws_FnStamps.j0 k l0 true) else (if (!(bt362.1 == bt362.2.2.1) || (!(bt362.2.1 == bt362.2.2.2))) = true then ((impl_StampLess.f bt362.1 bt362.2.1 bt362.2.2.1 bt362.2.2.2).bind fun t370 => ((impl_StampLess.f bt362.2.2.1 bt362.2.2.2 bt362.1 bt362.2.1).bind fun t371 => (if (t370 == t371) = true then (laws_FnStamps.j0 k l0 true) else (laws_FnStamps.j0 k l0 false)))) else ((impl_StampLess.f bt362.1 bt362.2.1 bt362.2.2.1 bt362.2.2.2).bind fun t372 => (laws_FnStamps.j0 k l0 t372)))))))
theorem laws_FnStamps.mono_l : ∀ k, (∀ y0 y1, LeO (laws_FnStamps.j0 k y0 y1) (laws_FnStamps.j0 (k + 1) y0 y1)) ∧ (∀ y0 y1 y2 y3 y4 y5 y6 y7, LeO (laws_FnStamps.l0 k y0 y1 y2 y3 y4 y5 y6 y7) (laws_FnStamps.l0 (k + 1) y0 y1 y2 y3 y4 y5 y6 y7))
  | 0 => ⟨fun _ _ r h => by simp [laws_FnStamps.j0] at h, fun _ _ _ _ _ _ _ _ r h => by simp [laws_FnStamps.l0] at h⟩
  | k + 1 => by
    obtain ⟨ih0, ih1⟩ := laws_FnStamps.mono_l k
    refine ⟨?_, ?_⟩
    · intro y0 y1
      unfold laws_FnStamps.j0
      repeat' first
      | (with_reducible exact ih0 _ _)
      | (with_reducible exact ih1 _ _ _ _ _ _ _ _)
      | (with_reducible exact impl_StampNext.mono _ _ _)
      | (with_reducible exact spec_DrawStampNext.mono _ _)
      | (with_reducible exact spec_StampNext.mono _ _ _)
      | (with_reducible exact LeO.refl _)
      | (with_reducible exact LeO.none _)
      | (with_reducible refine LeO.ite ?_ ?_)
      | (with_reducible refine LeO.bind ?_ (fun _ => ?_))
      | exact ih0 _ _
      | exact ih1 _ _ _ _ _ _ _ _
      | exact impl_StampNext.mono _ _ _
      | exact spec_DrawStampNext.mono _ _
      | exact spec_StampNext.mono _ _ _
      | exact LeO.none _
      | refine LeO.ite ?_ ?_
      | refine LeO.bind ?_ (fun _ => ?_)
    · intro y0 y1 y2 y3 y4 y5 y6 y7
      unfold laws_FnStamps.l0
      repeat' first
      | (with_reducible exact ih0 _ _)
      | (with_reducible exact ih1 _ _ _ _ _ _ _ _)
      | (with_reducible exact impl_StampNext.mono _ _ _)
      | (with_reducible exact spec_DrawStampNext.mono _ _)
      | (with_reducible exact spec_StampNext.mono _ _ _)
      | (with_reducible exact LeO.refl _)
      | (with_reducible exact LeO.none _)
      | (with_reducible refine LeO.ite ?_ ?_)
      | (with_reducible refine LeO.bind ?_ (fun _ => ?_))
      | exact ih0 _ _
      | exact ih1 _ _ _ _ _ _ _ _
      | exact impl_StampNext.mono _ _ _
      | exact spec_DrawStampNext.mono _ _
      | exact spec_StampNext.mono _ _ _
      | exact LeO.none _
      | refine LeO.ite ?_ ?_
      | refine LeO.bind ?_ (fun _ => ?_)
theorem laws_FnStamps.mono : ∀ a0 k, LeO (laws_FnStamps.f k a0) (laws_FnStamps.f (k + 1) a0) := by
  intro a0 k
  obtain ⟨ih0, ih1⟩ := laws_FnStamps.mono_l k
  unfold laws_FnStamps.f
  repeat' first
      | (with_reducible exact ih0 _ _)
      | (with_reducible exact ih1 _ _ _ _ _ _ _ _)
      | (with_reducible exact impl_StampNext.mono _ _ _)
      | (with_reducible exact spec_DrawStampNext.mono _ _)
      | (with_reducible exact spec_StampNext.mono _ _ _)
      | (with_reducible exact LeO.refl _)
      | (with_reducible exact LeO.none _)
      | (with_reducible refine LeO.ite ?_ ?_)
      | (with_reducible refine LeO.bind ?_ (fun _ => ?_))
      | exact ih0 _ _
      | exact ih1 _ _ _ _ _ _ _ _
      | exact impl_StampNext.mono _ _ _
      | exact spec_DrawStampNext.mono _ _
      | exact spec_StampNext.mono _ _ _
      | exact LeO.none _
      | refine LeO.ite ?_ ?_
      | refine LeO.bind ?_ (fun _ => ?_)
def laws_FnStamps.T4 : Bool × List (List Nat × List Nat) := (true, [([], []), ([], []), ([0, 1], [0, 1]), ([], []), ([], []), ([3, 4, 2], [3, 4]), ([2, 5], [2, 5]), ([6, 5], [6]), ([7], [7]), ([7], [7]), ([8, 9, 7], [7, 8, 9]), ([10, 7, 7], [7, 10]), ([11], [11]), ([11], [11]), ([12, 13, 11, 11], [11, 12, 13]), ([11], [11]), ([11], [11]), ([15, 16, 14, 11], [11, 15, 16]), ([14, 17, 11], [11, 14, 17]), ([11, 18, 7], [7, 11, 18]), ([7, 19], [7, 19]), ([20, 17], [20]), ([21], [21]), ([21], [21]), ([22, 23, 21], [21, 22, 23]), ([24, 21, 21], [21, 24]), ([25], [25]), ([25], [25]), ([26, 27, 25, 25], [25, 26, 27]), ([25, 28, 21], [21, 25, 28]), ([21, 29], [21, 29])])
def laws_FnStamps.B4 : List Nat := [0, 0, 3, 0, 0, 31, 63, 127, 255, 255, 1023, 2047, 4095, 4095, 16383, 4095, 4095, 131071, 262143, 524287, 1048575, 2097151, 4194303, 4194303, 16777215, 33554431, 67108863, 67108863, 268435455, 536870911, 1073741823]
theorem laws_FnStamps.tab4 : rtab .any (opsOf Try.f4 4) = laws_FnStamps.T4 := by kernel_rfl
theorem laws_FnStamps.bits4 : waitsOk laws_FnStamps.T4.2 laws_FnStamps.B4 = true := by kernel_rfl
def laws_FnStamps.T20 : Bool × List (List Nat × List Nat) := (true, [([], []), ([0], [0]), ([1], [1]), ([1], [1]), ([2, 3, 1], [1, 2, 3]), ([4, 1], [1, 4]), ([1], [1]), ([5, 6, 1, 1], [1, 5, 6]), ([1, 7], [1, 7]), ([8, 7, 0, 1, 2, 3, 4, 5, 6, 7, 8], [0, 8])])
def laws_FnStamps.B20 : List Nat := [0, 1, 3, 3, 15, 31, 3, 127, 255, 511]
theorem laws_FnStamps.tab20 : rtab .any (opsOf Try.f4 20) = laws_FnStamps.T20 := by kernel_rfl
theorem laws_FnStamps.bits20 : waitsOk laws_FnStamps.T20.2 laws_FnStamps.B20 = true := by kernel_rfl

end Go.Proofs.Ytlpdklfijainaaa.P
