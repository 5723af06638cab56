/- The law FnExactMultiWrite, for its row. -/
import Derived.Test.YtoklfidamhigcaaRows
import Derived.Test.YtoklfidamhigcaaEnt
import Derived.Test.YtoklfidamhigcaaLawMulti
import Derived.Test.YtoklfidamhigcaaEntM
namespace Go.Proofs.Ytoklfidamhigcaa.fnExactMultiWrite
open Go.ChangeShapes Go.WideShapes Go.ChangeAt Go.RowKit
open Go.ChangeMaps (open_string shut_string)
open Go.Proofs.Ytoklfidamhigcaa.D
set_option linter.unusedVariables false
set_option linter.unusedSimpArgs false
theorem own : ownKnob Try.prog.godebug = none := by kernel_rfl
theorem laidOut : laidOutB Try.prog = true := by kernel_rfl
set_option maxRecDepth 100000 in
theorem lifted (os : Os) (started : os.Started) (H : Type) (enc : TypeId × Value → H) :
    ReturnsInHanded {} Try.checked os 7 .any (Rows.fnExactMultiWriteSpec.pre6 enc Try.prog Try.f7 Rows.fnExactMultiWriteRow.domain false) (Rows.fnExactMultiWriteSpec.post enc Try.prog Try.f7 false true false false) := by
  refine returnsInHanded_of_change_sized (C := Try.checked) own started (by kernel_rfl) Try.func7
    (ChangeSpec.witness6 (enc := enc) (C := Try.checked) false ⟨#[], #[.agg #[.slice none 0 0, .slice none 0 0], .int .i64 0, .string ByteArray.empty], []⟩ 8 (by kernel_rfl) (by kernel_rfl) (by kernel_rfl) (by kernel_rfl)) ?_
  intro W base args ds gs before hval0 hW hcnd hsz0 _
  have hsz : (DataW.weightsEach Try.prog (Try.f7.params.toList ++ Rows.fnExactMultiWriteSpec.plain.varTypes Try.prog) (ds ++ gs)).all (· ≤ reachBytes) = true := hsz0
  have hval : ∀ (j : Nat) t v, Try.f7.params[j]? = some t → args[j]? = some v → Value.okWide Try.prog W .any base t v := hval0
  have hW' := hW
  obtain ⟨p, q, hA0, hV, rfl, hfz, hnd⟩ := hW
  have hA : DataW.TrodAll enc Try.prog W 0 (fun _ => true) true Try.f7.params.toList args.toList ds p := hA0
  rw [Try.params7] at hA hval hsz
  obtain ⟨v0, vs0, d0, ds0, p0, q0, e0, rfl, rfl, h0, r0⟩ := trodAll_cons hA
  obtain ⟨v1, vs1, d1, ds1, p1, q1, e1, rfl, rfl, h1, r1⟩ := trodAll_cons r0
  obtain ⟨v2, vs2, d2, ds2, p2, q2, e2, rfl, rfl, h2, r2⟩ := trodAll_cons r1
  obtain ⟨rfl, rfl, rfl⟩ := trodAll_nil r2
  subst e2
  subst e1
  obtain rfl : args = #[v0, v1, v2] := by cases args; simp_all
  clear e0
  obtain ⟨rfl, rfl⟩ := trodVars_none hV
  have k0 := h0
  have lt0 : ∀ x ∈ p0, x.block < W.heap.size := by obtain ⟨m, hm⟩ := k0; exact DataW.trod_lt m _ _ _ hm
  obtain ⟨l0, w0, b0⟩ := arg_agg (e := mulD) (ok := mulIn) ((opens_struct (m := 2) Try.underlying64 (by kernel_rfl) (opensF_cons (k := 1) rfl (by kernel_rfl) (opens_struct (m := 1) Try.underlying61 (by kernel_rfl) (opensF_cons (k := 1) rfl (by kernel_rfl) (opens_slice Try.underlying33 (by decide +kernel) (opens_int Try.underlying3)) opensF_nil)) (opensF_cons (k := 1) rfl (by kernel_rfl) (opens_slice Try.underlying62 (by decide +kernel) (opens_struct (m := 3) Try.underlying210 (by kernel_rfl) (opensF_cons (k := 2) rfl (by kernel_rfl) (opens_struct (m := 2) Try.underlying86 (by kernel_rfl) (opensF_cons (k := 1) rfl (by kernel_rfl) (opens_int Try.underlying3) (opensF_cons (k := 1) rfl (by kernel_rfl) (opens_int Try.underlying3) opensF_nil))) (opensF_cons (k := 1) rfl (by kernel_rfl) (opens_string Try.underlying9) opensF_nil)))) opensF_nil))).to mulOf (fun _ => mulOf_e _ |>.symm) (fun a h => mulOf_ok a h.1.1.1 h.2.1.1 (fun y hy => (h.2.1.2 y hy).2.1))) Try.underlying64 (hval 0 64 v0 rfl rfl) h0
  have k1 := h1
  have lt1 : ∀ x ∈ p1, x.block < W.heap.size := by obtain ⟨m, hm⟩ := k1; exact DataW.trod_lt m _ _ _ hm
  obtain ⟨l1, rfl, lo1, hi1⟩ := in_int (W := W) Try.underlying3 (hval 1 3 v1 rfl rfl) h1
  have k2 := h2
  have lt2 : ∀ x ∈ p2, x.block < W.heap.size := by obtain ⟨m, hm⟩ := k2; exact DataW.trod_lt m _ _ _ hm
  obtain ⟨l2, rfl, b2⟩ := in_string (W := W) hsz (j := 2) (t := 9) rfl rfl Try.underlying9 (hval 2 9 v2 rfl rfl) h2
  clear hA0 hval0 hsz0 hsz
  refine (enter_law (law_MultiWrite l0 l1 l2 b0 b2) (argsC w0 (argsC vrI (argsC vrS (args0))))).mono fun e W' ⟨he, bel⟩ => ?_
  subst he
  exact ⟨_, rfl, _, _, _, [], _, [], hW', trodAll_mk1 (shut_bool Try.underlying4 _), (trodAll_cons_mk (Below.trod laidOut (by kernel_rfl) (of_decide_eq_true (by kernel_rfl)) k0 bel lt0) (trodAll_cons_mk (Below.trod laidOut (by kernel_rfl) (of_decide_eq_true (by kernel_rfl)) k1 bel lt1) (trodAll_cons_mk (Below.trod laidOut (by kernel_rfl) (of_decide_eq_true (by kernel_rfl)) k2 bel lt2) (trodAll_mk0)))), rfl, bel.frame _, fun h => by cases h⟩
theorem over : Rows.fnExactMultiWriteRow.holds Try.pinned (OpenSpec.ofChange Rows.fnExactMultiWriteSpec) :=
  OpenClaim.holds_of_wide 7 Try.f7 rfl rfl rfl rfl rfl rfl rfl ⟨rfl, rfl, rfl, rfl, rfl⟩ rfl rfl rfl rfl rfl (by kernel_rfl) Try.func7 (by kernel_rfl)
    (of_decide_eq_true (by kernel_rfl)) (by unfold Func.isWrapper; first | (rw [if_pos (by decide +kernel)]; kernel_rfl) | (rw [if_neg (by decide +kernel)]; exact ⟨rfl, rfl⟩))
    (fun os started H enc _ => lifted os started H enc)
theorem proved : Rows.FnExactMultiWriteSaid := over
#print axioms proved
end Go.Proofs.Ytoklfidamhigcaa.fnExactMultiWrite
namespace Go.Proofs.Ytoklfidamhigcaa
/-- The row, under a short name, for the claim. -/
theorem fnExactMultiWrite_holds : Rows.FnExactMultiWriteSaid := fnExactMultiWrite.proved
end Go.Proofs.Ytoklfidamhigcaa
