/- A choice that some bytes make. -/
import Derived.Test.YtoklfidamhigcaaW
import Derived.Test.YtoklfidamhigcaaH
namespace Go.Proofs.Ytoklfidamhigcaa.D
open Go.RowKit
set_option maxRecDepth 100000
set_option linter.unusedVariables false
set_option linter.unusedSimpArgs false
theorem l_at (l : List UInt8) (i n : Int) (hl : l.length ≤ 2 ^ 40) (h0 : 0 ≤ i) (h1 : i ≤ 2 ^ 40) (hn : n ≤ 2 ^ 62) :
    CallM Try.prog id_laws_at [vY l, vI .i64 i, vI .i64 n] [] [] true fun r Lo => ∃ v, Lo = [] ∧ r = vI .i64 v ∧ 0 ≤ v ∧ (v < n ∨ v = 0) := by
  refine F_laws_at ?_
  have e1 : (l.length : Int) ≠ 0 → 0 ≤ i % l.length ∧ i % l.length < l.length := fun h => ⟨Int.emod_nonneg _ h, Int.emod_lt_of_pos _ (by omega)⟩
  have e2 : (l.length : Int) ≠ 0 → 0 ≤ (i + 1) % l.length ∧ (i + 1) % l.length < l.length := fun h => ⟨Int.emod_nonneg _ h, Int.emod_lt_of_pos _ (by omega)⟩
  have e4 : ∀ x : Int, 0 < n → 0 ≤ x % n ∧ x % n < n := fun x h => ⟨Int.emod_nonneg _ (by omega), Int.emod_lt_of_pos _ h⟩
  try (conv => whnf)
  repeat' (first
    | (refine Need.mk ?_ ?_; (focus (omega)); conv => whnf)
    | (refine Pick.mk ?_ ?_ ?_; rotate_left; (focus (first | exact List.length_map _ | (refine wid ?_ ?_ <;> omega) | exact wby _ | (refine tmodn ?_; omega) | (refine wdiv ?_ ?_ ?_ <;> omega) | (refine pick_int _ _ _ ?_ ?_ <;> omega) | ((fail_if_success (show @Eq (Option _) _ _)); rfl))); conv => whnf)
    | (refine br_dec (fun _ => ?_) (fun _ => ?_) <;> first | (exfalso; omega) | contradiction | conv => whnf)
    | (refine br_not ?_; conv => whnf)
    | (refine br_bne (fun _ => ?_) (fun _ => ?_) <;> first | (exfalso; omega) | contradiction | conv => whnf)
    | (refine br_beq (fun _ => ?_) (fun _ => ?_) <;> first | (exfalso; omega) | contradiction | conv => whnf))
  · refine Out.mk false [0, 1, 2, 3, 4] [] ?_
    try (conv => whnf)
    exact ⟨_, rfl, rfl, by omega, by omega⟩
  · refine Out.mk false [0, 1, 2, 3, 4] [] ?_
    try (conv => whnf)
    have := e4 (i * 7) (by omega)
    exact ⟨_, rfl, rfl, by omega, by omega⟩
  · refine Out.mk false [0, 1, 2, 3, 4] [] ?_
    try (conv => whnf)
    have b1 := byLt (l[(i % (l.length : Int)).toNat]'(by omega))
    have b2 := byLt (l[((i + 1) % (l.length : Int)).toNat]'(by omega))
    have d1 : 0 ≤ i / (l.length : Int) := Int.ediv_nonneg h0 (by omega)
    have d2 := Int.ediv_le_self (l.length : Int) h0
    rw [wid (x := _ * 31) (by omega) (by omega), wid (x := _ + ((l[((i + 1) % (l.length : Int)).toNat]'(by omega)).toNat : Int)) (by omega) (by omega), wid (by omega) (by omega), Int.tmod_eq_emod_of_nonneg (by omega)]
    have := e4 (((l[(i % (l.length : Int)).toNat]'(by omega)).toNat : Int) * 31 + ((l[((i + 1) % (l.length : Int)).toNat]'(by omega)).toNat : Int) + i / (l.length : Int)) (by omega)
    exact ⟨_, rfl, rfl, by omega, by omega⟩
end Go.Proofs.Ytoklfidamhigcaa.D
