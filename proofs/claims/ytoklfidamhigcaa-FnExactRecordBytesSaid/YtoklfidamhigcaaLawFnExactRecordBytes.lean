/- The law FnExactRecordBytes, for its row. -/
import Derived.Test.YtoklfidamhigcaaRows
import Derived.Test.YtoklfidamhigcaaEnt
import Derived.Test.YtoklfidamhigcaaLawOp
import Derived.Test.YtoklfidamhigcaaEntT
namespace Go.Proofs.Ytoklfidamhigcaa.fnExactRecordBytes
open Go.ChangeShapes Go.WideShapes Go.ChangeAt Go.RowKit
open Go.ChangeMaps (open_string shut_string)
open Go.Proofs.Ytoklfidamhigcaa.D
set_option linter.unusedVariables false
set_option linter.unusedSimpArgs false
theorem own : ownKnob Try.prog.godebug = none := by kernel_rfl
theorem laidOut : laidOutB Try.prog = true := by kernel_rfl
set_option maxRecDepth 100000 in
theorem lifted (os : Os) (started : os.Started) (H : Type) (enc : TypeId × Value → H) :
    ReturnsInHanded {} Try.checked os 10 .any (Rows.fnExactRecordBytesSpec.pre6 enc Try.prog Try.f10 Rows.fnExactRecordBytesRow.domain false) (Rows.fnExactRecordBytesSpec.post enc Try.prog Try.f10 false true false false) := by
  refine returnsInHanded_of_change_sized (C := Try.checked) own started (by kernel_rfl) Try.func10
    (ChangeSpec.witness6 (enc := enc) (C := Try.checked) false ⟨#[], #[.agg #[.int .i64 0, .int .i64 0, .int .i64 0, .slice none 0 0, .int .i64 0, .int .i64 0, .int .i64 0, .int .i64 0, .int .i64 0, .int .i64 0, .string ByteArray.empty, .string ByteArray.empty]], []⟩ 8 (by kernel_rfl) (by kernel_rfl) (by kernel_rfl) (by kernel_rfl)) ?_
  intro W base args ds gs before hval0 hW hcnd hsz0 _
  have hsz : (DataW.weightsEach Try.prog (Try.f10.params.toList ++ Rows.fnExactRecordBytesSpec.plain.varTypes Try.prog) (ds ++ gs)).all (· ≤ reachBytes) = true := hsz0
  have hval : ∀ (j : Nat) t v, Try.f10.params[j]? = some t → args[j]? = some v → Value.okWide Try.prog W .any base t v := hval0
  have hW' := hW
  obtain ⟨p, q, hA0, hV, rfl, hfz, hnd⟩ := hW
  have hA : DataW.TrodAll enc Try.prog W 0 (fun _ => true) true Try.f10.params.toList args.toList ds p := hA0
  rw [Try.params10] at hA hval hsz
  obtain ⟨v0, vs0, d0, ds0, p0, q0, e0, rfl, rfl, h0, r0⟩ := trodAll_cons hA
  obtain ⟨rfl, rfl, rfl⟩ := trodAll_nil r0
  obtain rfl : args = #[v0] := by cases args; simp_all
  clear e0
  obtain ⟨rfl, rfl⟩ := trodVars_none hV
  have k0 := h0
  have lt0 : ∀ x ∈ p0, x.block < W.heap.size := by obtain ⟨m, hm⟩ := k0; exact DataW.trod_lt m _ _ _ hm
  obtain ⟨l0, w0, b0⟩ := arg_agg (e := oD) (ok := opIn) ((opens_struct (m := 12) Try.underlying88 (by kernel_rfl) (opensF_cons (k := 1) rfl (by kernel_rfl) (opens_int Try.underlying3) (opensF_cons (k := 1) rfl (by kernel_rfl) (opens_int Try.underlying3) (opensF_cons (k := 1) rfl (by kernel_rfl) (opens_int Try.underlying3) (opensF_cons (k := 1) rfl (by kernel_rfl) (opens_struct (m := 1) Try.underlying61 (by kernel_rfl) (opensF_cons (k := 1) rfl (by kernel_rfl) (opens_slice Try.underlying33 (by decide +kernel) (opens_int Try.underlying3)) opensF_nil)) (opensF_cons (k := 1) rfl (by kernel_rfl) (opens_int Try.underlying3) (opensF_cons (k := 1) rfl (by kernel_rfl) (opens_int Try.underlying3) (opensF_cons (k := 1) rfl (by kernel_rfl) (opens_int Try.underlying3) (opensF_cons (k := 1) rfl (by kernel_rfl) (opens_int Try.underlying3) (opensF_cons (k := 2) rfl (by kernel_rfl) (opens_struct (m := 2) Try.underlying86 (by kernel_rfl) (opensF_cons (k := 1) rfl (by kernel_rfl) (opens_int Try.underlying3) (opensF_cons (k := 1) rfl (by kernel_rfl) (opens_int Try.underlying3) opensF_nil))) (opensF_cons (k := 1) rfl (by kernel_rfl) (opens_string Try.underlying9) (opensF_cons (k := 1) rfl (by kernel_rfl) (opens_string Try.underlying9) opensF_nil)))))))))))).to opOf (fun _ => rfl) (fun a h => ⟨h.2.2.2.1.1.1, h.2.2.2.2.2.2.2.2.2.1, h.2.2.2.2.2.2.2.2.2.2.1⟩)) Try.underlying88 (hval 0 88 v0 rfl rfl) h0
  clear hA0 hval0 hsz0 hsz
  refine (enter_law (law_RecordBytes l0 b0) (argsC w0 (args0))).mono fun e W' ⟨he, bel⟩ => ?_
  subst he
  exact ⟨_, rfl, _, _, _, [], _, [], hW', trodAll_mk1 (shut_bool Try.underlying4 _), (trodAll_cons_mk (Below.trod laidOut (by kernel_rfl) (of_decide_eq_true (by kernel_rfl)) k0 bel lt0) (trodAll_mk0)), rfl, bel.frame _, fun h => by cases h⟩
theorem over : Rows.fnExactRecordBytesRow.holds Try.pinned (OpenSpec.ofChange Rows.fnExactRecordBytesSpec) :=
  OpenClaim.holds_of_wide 10 Try.f10 rfl rfl rfl rfl rfl rfl rfl ⟨rfl, rfl, rfl, rfl, rfl⟩ rfl rfl rfl rfl rfl (by kernel_rfl) Try.func10 (by kernel_rfl)
    (of_decide_eq_true (by kernel_rfl)) (by unfold Func.isWrapper; first | (rw [if_pos (by decide +kernel)]; kernel_rfl) | (rw [if_neg (by decide +kernel)]; exact ⟨rfl, rfl⟩))
    (fun os started H enc _ => lifted os started H enc)
theorem proved : Rows.FnExactRecordBytesSaid := over
#print axioms proved
end Go.Proofs.Ytoklfidamhigcaa.fnExactRecordBytes
namespace Go.Proofs.Ytoklfidamhigcaa
/-- The row, under a short name, for the claim. -/
theorem fnExactRecordBytes_holds : Rows.FnExactRecordBytesSaid := fnExactRecordBytes.proved
end Go.Proofs.Ytoklfidamhigcaa
