/- The law FnExactTreeSum, for its row. -/
import Derived.Test.YtpdjehnlejjfmaaRows
import Derived.Test.YtpdjehnlejjfmaaJ8
namespace Go.Proofs.Ytpdjehnlejjfmaa.fnExactTreeSum
open Go.ChangeShapes Go.WideShapes Go.ChangeAt Go.RowKit
open Go.ChangeMaps (open_string shut_string)
open Go.Proofs.Ytpdjehnlejjfmaa.D
set_option linter.unusedVariables false
set_option linter.unusedSimpArgs false
theorem own : ownKnob Try.prog.godebug = none := by kernel_rfl
theorem laidOut : laidOutB Try.prog = true := by kernel_rfl
set_option maxRecDepth 100000 in
theorem lifted (os : Os) (started : os.Started) (H : Type) (enc : TypeId × Value → H) :
    ReturnsInHanded {} Try.checked os 4 .any (Rows.fnExactTreeSumSpec.pre6 enc Try.prog Try.f4 Rows.fnExactTreeSumRow.domain false) (Rows.fnExactTreeSumSpec.post enc Try.prog Try.f4 false true false false) := by
  refine returnsInHanded_of_change_sized (C := Try.checked) own started (by kernel_rfl) Try.func4
    (ChangeSpec.witness6 (enc := enc) (C := Try.checked) false ⟨#[], #[.slice none 0 0, .int .i64 0, .int .i64 0, .int .i64 0], []⟩ 8 (by kernel_rfl) (by kernel_rfl) (by kernel_rfl) (by kernel_rfl)) ?_
  intro W base args ds gs before hval0 hW hcnd hsz0 _
  have hsz : (DataW.weightsEach Try.prog (Try.f4.params.toList ++ Rows.fnExactTreeSumSpec.plain.varTypes Try.prog) (ds ++ gs)).all (· ≤ reachBytes) = true := hsz0
  have hval : ∀ (j : Nat) t v, Try.f4.params[j]? = some t → args[j]? = some v → Value.okWide Try.prog W .any base t v := hval0
  have hW' := hW
  obtain ⟨p, q, hA0, hV, rfl, hfz, hnd⟩ := hW
  have hA : DataW.TrodAll enc Try.prog W 0 (fun _ => true) true Try.f4.params.toList args.toList ds p := hA0
  rw [Try.params4] at hA hval hsz
  obtain ⟨v0, vs0, d0, ds0, p0, q0, e0, rfl, rfl, h0, r0⟩ := trodAll_cons hA
  obtain ⟨v1, vs1, d1, ds1, p1, q1, e1, rfl, rfl, h1, r1⟩ := trodAll_cons r0
  obtain ⟨v2, vs2, d2, ds2, p2, q2, e2, rfl, rfl, h2, r2⟩ := trodAll_cons r1
  obtain ⟨v3, vs3, d3, ds3, p3, q3, e3, rfl, rfl, h3, r3⟩ := trodAll_cons r2
  obtain ⟨rfl, rfl, rfl⟩ := trodAll_nil r3
  subst e3
  subst e2
  subst e1
  obtain rfl : args = #[v0, v1, v2, v3] := by cases args; simp_all
  clear e0
  obtain ⟨rfl, rfl⟩ := trodVars_none hV
  have k0 := h0
  have lt0 : ∀ x ∈ p0, x.block < W.heap.size := by obtain ⟨m, hm⟩ := k0; exact DataW.trod_lt m _ _ _ hm
  obtain ⟨l0, w0, b0⟩ := arg_slice Try.underlying22 (by decide +kernel) ((opens_struct (m := 12) Try.underlying92 (by kernel_rfl) (opensF_cons (k := 1) rfl (by kernel_rfl) (opens_int Try.underlying3) (opensF_cons (k := 1) rfl (by kernel_rfl) (opens_int Try.underlying3) (opensF_cons (k := 1) rfl (by kernel_rfl) (opens_int Try.underlying3) (opensF_cons (k := 1) rfl (by kernel_rfl) (opens_struct (m := 1) Try.underlying89 (by kernel_rfl) (opensF_cons (k := 1) rfl (by kernel_rfl) (opens_slice Try.underlying41 (by decide +kernel) (opens_int Try.underlying3)) opensF_nil)) (opensF_cons (k := 1) rfl (by kernel_rfl) (opens_int Try.underlying3) (opensF_cons (k := 1) rfl (by kernel_rfl) (opens_int Try.underlying3) (opensF_cons (k := 1) rfl (by kernel_rfl) (opens_int Try.underlying3) (opensF_cons (k := 1) rfl (by kernel_rfl) (opens_int Try.underlying3) (opensF_cons (k := 2) rfl (by kernel_rfl) (opens_struct (m := 2) Try.underlying90 (by kernel_rfl) (opensF_cons (k := 1) rfl (by kernel_rfl) (opens_int Try.underlying3) (opensF_cons (k := 1) rfl (by kernel_rfl) (opens_int Try.underlying3) opensF_nil))) (opensF_cons (k := 1) rfl (by kernel_rfl) (opens_string Try.underlying9) (opensF_cons (k := 1) rfl (by kernel_rfl) (opens_string Try.underlying9) opensF_nil)))))))))))).to (e2 := oD) (ok2 := opIn) opOf (fun _ => rfl) (fun a h => ⟨h.2.2.2.1.1.1, h.2.2.2.2.2.2.2.2.2.1, h.2.2.2.2.2.2.2.2.2.2.1⟩)) (hval 0 22 v0 rfl rfl) h0
  have k1 := h1
  have lt1 : ∀ x ∈ p1, x.block < W.heap.size := by obtain ⟨m, hm⟩ := k1; exact DataW.trod_lt m _ _ _ hm
  obtain ⟨l1, rfl, lo1, hi1⟩ := in_int (W := W) Try.underlying3 (hval 1 3 v1 rfl rfl) h1
  have k2 := h2
  have lt2 : ∀ x ∈ p2, x.block < W.heap.size := by obtain ⟨m, hm⟩ := k2; exact DataW.trod_lt m _ _ _ hm
  obtain ⟨l2, rfl, lo2, hi2⟩ := in_int (W := W) Try.underlying3 (hval 2 3 v2 rfl rfl) h2
  have k3 := h3
  have lt3 : ∀ x ∈ p3, x.block < W.heap.size := by obtain ⟨m, hm⟩ := k3; exact DataW.trod_lt m _ _ _ hm
  obtain ⟨l3, rfl, lo3, hi3⟩ := in_int (W := W) Try.underlying3 (hval 3 3 v3 rfl rfl) h3
  clear hA0 hval0 hsz0 hsz
  refine (enter_law (law_TreeSum l0 l1 l2 l3 b0.1 b0.2) (argsC w0 (argsC vrI (argsC vrI (argsC vrI (args0)))))).mono fun e W' ⟨he, bel⟩ => ?_
  subst he
  exact ⟨_, rfl, _, _, _, [], _, [], hW', trodAll_mk1 (shut_bool Try.underlying4 _), (trodAll_cons_mk (Below.trod laidOut (by kernel_rfl) (of_decide_eq_true (by kernel_rfl)) k0 bel lt0) (trodAll_cons_mk (Below.trod laidOut (by kernel_rfl) (of_decide_eq_true (by kernel_rfl)) k1 bel lt1) (trodAll_cons_mk (Below.trod laidOut (by kernel_rfl) (of_decide_eq_true (by kernel_rfl)) k2 bel lt2) (trodAll_cons_mk (Below.trod laidOut (by kernel_rfl) (of_decide_eq_true (by kernel_rfl)) k3 bel lt3) (trodAll_mk0))))), rfl, bel.frame _, fun h => by cases h⟩
theorem over : Rows.fnExactTreeSumRow.holds Try.pinned (OpenSpec.ofChange Rows.fnExactTreeSumSpec) :=
  OpenClaim.holds_of_wide 4 Try.f4 rfl rfl rfl rfl rfl rfl rfl ⟨rfl, rfl, rfl, rfl, rfl⟩ rfl rfl rfl rfl rfl (by kernel_rfl) Try.func4 (by kernel_rfl)
    (of_decide_eq_true (by kernel_rfl)) (by unfold Func.isWrapper; first | (rw [if_pos (by decide +kernel)]; kernel_rfl) | (rw [if_neg (by decide +kernel)]; exact ⟨rfl, rfl⟩))
    (fun os started H enc _ => lifted os started H enc)
theorem proved : Rows.FnExactTreeSumSaid := over
#print axioms proved
end Go.Proofs.Ytpdjehnlejjfmaa.fnExactTreeSum
namespace Go.Proofs.Ytpdjehnlejjfmaa
/-- The row, under a short name, for the claim. -/
theorem fnExactTreeSum_holds : Rows.FnExactTreeSumSaid := fnExactTreeSum.proved
end Go.Proofs.Ytpdjehnlejjfmaa
