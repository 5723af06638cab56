/- An operation as bytes, by both. -/
import Derived.Test.YtoklfidamhigcaaOpOk
import Derived.Test.YtoklfidamhigcaaRun2
import Derived.Test.YtoklfidamhigcaaCod4
import Derived.Test.YtoklfidamhigcaaSum2
namespace Go.Proofs.Ytoklfidamhigcaa.D
open Go.RowKit
set_option maxRecDepth 100000
set_option maxHeartbeats 4000000
set_option linter.unusedVariables false
set_option linter.unusedSimpArgs false

/-- The numbers of an operation. -/
def nums (o : OpV) : List Int := [o.actor, o.seq, o.time, o.kind, o.obj, (zig o.n : Int), o.undo, o.atT, o.atA]
def opB (o : OpV) : List UInt8 := putR (nums o ++ o.deps) ++ putT [o.key, o.text]
theorem i_numbers (o : OpV) (h : -4611686018427387903 ≤ o.n ∧ o.n ≤ 4611686018427387903) : CallD Try.prog id_impl_Op_numbers [vO o] [] (.agg ((nums o).map cI)) [] := by
  refine F_impl_Op_numbers ?_
  try (conv => whnf)
  refine Hand.mk [] ?_
  try (conv => whnf)
  refine CallW.d (i_zig o.n h) ?_
  try (conv => whnf)
  repeat (refine Need.mk ?_ ?_; (focus (((conv => whnf); (repeat (refine Need.mk (by first | rfl | omega | (simp; done)) ?_; conv => whnf)); exact Done.mk trivial))); conv => whnf)
  refine Out.mk true [] [] ?_
  try (conv => whnf)
  exact ⟨rfl, rfl⟩
theorem nums_in {o : OpV} (h : OpOk o) : ∀ x ∈ nums o ++ o.deps, inM x := by
  obtain ⟨⟨t1, a1⟩, s, v, _, ob, n, u, _, at_, k⟩ := h
  have hz : (zig o.n : Int) ≤ 2000000000000 := by unfold zig; split <;> omega
  have hA : 0 ≤ o.atT ∧ o.atT ≤ 1000000000000 ∧ 0 ≤ o.atA ∧ o.atA < 16 := by
    rcases at_ with ⟨h1, h2⟩ | ⟨⟨h1, h2⟩, _⟩ <;> omega
  have hK : 1 ≤ o.kind ∧ o.kind ≤ 4 := by
    rcases k with k | k | k | k <;> omega
  intro x hx
  rcases List.mem_append.1 hx with hx | hx
  · simp only [nums, List.mem_cons, List.not_mem_nil, or_false] at hx
    unfold inM M4
    rcases hx with rfl | rfl | rfl | rfl | rfl | rfl | rfl | rfl | rfl <;> omega
  · have := v.2 x hx
    unfold cntOk at this
    unfold inM M4
    omega
theorem putR_nums {o : OpV} (h : OpOk o) : (putR (nums o ++ o.deps)).length ≤ 1000 := by
  have hd := h.vec.1
  have hl : (nums o ++ o.deps).length = 25 := by simp [nums, hd]
  have h1 := putRs_len _ (nums o ++ o.deps) (Nat.le_refl _) (nums_in h) (by omega)
  have h2 := put_len (n := (nums o ++ o.deps).length) (by omega)
  rw [putR, List.length_append]
  omega
theorem opB_len {o : OpV} (h : OpOk o) : (opB o).length ≤ 3000 := by
  have h1 := putR_nums h
  have hw := h.words
  have h2 := putTs_len [o.key, o.text] [] (by simp [total]; omega)
  have h3 := put_len (n := [o.key, o.text].length) (by simp)
  rw [opB, List.length_append, putT, List.length_append]
  simp [total] at h2 h3
  simp
  omega
theorem i_opBytes (o : OpV) (h : OpOk o) : CallD Try.prog id_impl_opBytes [vO o] [] (.one (.os 0 1 0 (opB o).length)) [.own 1 ((opB o).map byD)] := by
  refine F_impl_opBytes ?_
  have hn := h.num
  have hd := h.vec.1
  have hi := nums_in h
  try (conv => whnf)
  refine Hand.mk [] ?_
  try (conv => whnf)
  refine CallW.d (i_numbers o (by omega)) ?_
  try (conv => whnf)
  repeat (first
    | (refine Need.mk ?_ ?_; (focus (first | (simp only [List.length_map, List.length_append, List.length_cons, List.length_nil, List.length_replicate]; omega) | (simp; done))); conv => whnf)
    | (refine Pick.mk ?_ ?_ ?_; rotate_left; (focus (first | exact List.length_map _ | (simp only [List.length_map, List.length_append, List.length_cons, List.length_nil, List.length_replicate, Nat.zero_add]; rfl))); conv => whnf))
  have hl : (nums o ++ o.deps).length ≤ 2 ^ 40 := by simp [nums, hd]
  have hw := h.words
  refine Hand.mk [] ?_
  try (conv => whnf)
  repeat (refine Pick.mk ?_ ?_ ?_; rotate_left; (focus ((refine SlOf.full ?_; first | (simp; done) | (simp; omega)))); conv => whnf)
  refine CallW.d (i_appendRuns_nil (nums o ++ o.deps) hi hl) ?_
  try (conv => whnf)
  repeat (refine Pick.mk ?_ ?_ ?_; rotate_left; (focus ((simp only [chunks]; rfl))); conv => whnf)
  have hb : (putR (nums o ++ o.deps)).length ≤ 1000 := putR_nums h
  refine Hand.mk [0] ?_
  try (conv => whnf)
  repeat (refine Pick.mk ?_ ?_ ?_; rotate_left; (focus ((refine SlOf.full ?_; first | (simp; done) | (simp; omega)))); conv => whnf)
  refine CallW.m (i_appendTexts (putR (nums o ++ o.deps)) _ [o.key, o.text] rfl (by omega) (by simp) (by simp [total]; omega)) ?_
  try (conv => whnf)
  refine Out.mk false [0, 1, 2, 3, 4] [] ?_
  try (conv => whnf)
  repeat (refine Need.mk ?_ ?_; (focus ((first | exact flat_by _ | exact flat_in _ | exact flat_st _ | exact flat_ts _ | exact flat_bo _ | exact flat_cl rfl))); conv => whnf)
  exact ⟨by simp [opB], by simp [opB]⟩
theorem s_l08Sign (d : Int) (h : -4611686018427387903 ≤ d ∧ d ≤ 4611686018427387903) : CallD Try.prog id_spec_l08Sign [vI .i64 d] [] (vI .i64 (zig d)) [] := by
  refine F_spec_l08Sign ?_
  try (conv => whnf)
  repeat' (first
    | (refine Pick.mk ?_ ?_ ?_; rotate_left; (focus ((refine wid ?_ ?_ <;> omega))); conv => whnf)
    | (refine br_dec (fun _ => ?_) (fun _ => ?_) <;> first | (exfalso; omega) | contradiction | conv => whnf)
    | (refine br_not ?_; conv => whnf)
    | (refine br_bne (fun _ => ?_) (fun _ => ?_) <;> first | (exfalso; omega) | contradiction | conv => whnf)
    | (refine br_beq (fun _ => ?_) (fun _ => ?_) <;> first | (exfalso; omega) | contradiction | conv => whnf))
  all_goals
    refine Out.mk true [] [] ?_
    try (conv => whnf)
  all_goals
    first
    | exact ⟨by simp only [zig]; rw [if_pos (by omega)]; congr; omega, rfl⟩
    | exact ⟨by simp only [zig]; rw [if_neg (by omega)]; congr; omega, rfl⟩
theorem s_l12Bytes (o : OpV) (h : OpOk o) : CallD Try.prog id_spec_l12Bytes [vO o] [] (.one (.os 0 1 0 (opB o).length)) [.own 1 ((opB o).map byD)] := by
  refine F_spec_l12Bytes ?_
  have hn := h.num
  have hd := h.vec.1
  have hw := h.words
  have hi := nums_in h
  have hl : (nums o ++ o.deps).length ≤ 2 ^ 40 := by simp [nums, hd]
  have hb : (putR (nums o ++ o.deps)).length ≤ 1000 := putR_nums h
  have hp : (putT [o.key, o.text]).length ≤ 1000 := by
    have h2 := putTs_len [o.key, o.text] [] (by simp [total]; omega)
    have h3 := put_len (n := [o.key, o.text].length) (by simp)
    rw [putT, List.length_append]
    simp [total] at h2 h3 ⊢
    omega
  try (conv => whnf)
  refine Hand.mk [] ?_
  try (conv => whnf)
  refine CallW.d (s_l08Sign o.n (by omega)) ?_
  try (conv => whnf)
  repeat (first
    | (refine Need.mk ?_ ?_; (focus (first | omega | (simp; done) | ((conv => whnf); (repeat (refine Need.mk (by first | rfl | omega | (simp; done)) ?_; conv => whnf)); exact Done.mk trivial))); conv => whnf)
    | (refine Pick.mk ?_ ?_ ?_; rotate_left; (focus (first | (simp only [List.length_map, List.length_append, List.length_cons, List.length_nil, List.length_replicate, Nat.zero_add]; rfl) | (simp only [chunks]; rfl) | (refine SlOf.full ?_; first | (simp; done) | (simp; omega)) | ((fail_if_success (show @Eq (Option _) _ _)); rfl))); conv => whnf)
    | (refine SeqJ.thru ?_; conv => whnf))
  refine Need.mk ?_ ?_
  all_goals
    try (conv => whnf)
    repeat (first
      | (refine Need.mk ?_ ?_; (focus (((conv => whnf); (repeat (refine Need.mk (by first | rfl | omega | (simp; done)) ?_; conv => whnf)); exact Done.mk trivial))); conv => whnf)
      | (refine Pick.mk ?_ ?_ ?_; rotate_left; (focus ((simp only [chunks]; rfl))); conv => whnf))
    refine Hand.mk [] ?_
    try (conv => whnf)
    repeat (refine Pick.mk ?_ ?_ ?_; rotate_left; (focus ((refine SlOf.full ?_; first | (simp; done) | (simp; omega)))); conv => whnf)
    refine CallW.d (s_l01PutRuns (nums o ++ o.deps) hi hl) ?_
    try (conv => whnf)
    repeat (first
      | (refine Need.mk ?_ ?_; (focus (((conv => whnf); (repeat (refine Need.mk (by first | rfl | omega | (simp; done)) ?_; conv => whnf)); exact Done.mk trivial))); conv => whnf)
      | (refine Pick.mk ?_ ?_ ?_; rotate_left; (focus ((simp only [chunks]; rfl))); conv => whnf))
    refine Hand.mk [] ?_
    try (conv => whnf)
    repeat (refine Pick.mk ?_ ?_ ?_; rotate_left; (focus ((refine SlOf.full ?_; first | (simp; done) | (simp; omega)))); conv => whnf)
    refine CallW.r (s_l01PutTexts [o.key, o.text] (by simp) (by simp [total]; omega)) ?_
    rintro _ _ ⟨l, rfl, rfl, hx⟩
    obtain rfl : l = putT [o.key, o.text] := by
      rcases hx with hx | hx
      · exact hx
      · omega
    try (conv => whnf)
    repeat (first
      | (refine Need.mk ?_ ?_; (focus (omega)); conv => whnf)
      | (refine Pick.mk ?_ ?_ ?_; rotate_left; (focus (first | (simp only [List.length_map, List.length_append, List.length_cons, List.length_nil, List.length_replicate, Nat.zero_add]; rfl) | with_reducible exact map_app _ _ _ | (refine SlOf.full ?_; first | (simp; done) | (simp; omega)))); conv => whnf))
    refine Out.mk false [0, 1, 2, 3, 4] [] ?_
    try (conv => whnf)
    repeat (refine Need.mk ?_ ?_; (focus ((first | exact flat_by _ | exact flat_in _ | exact flat_st _ | exact flat_ts _ | exact flat_bo _ | exact flat_cl rfl))); conv => whnf)
    exact ⟨by simp [opB], by simp [opB]⟩
/-- A record: how many bytes, the operation, their sum. -/
def recB (o : OpV) : List UInt8 := put (opB o).length ++ opB o ++ four (sumH 2166136261 (opB o))
theorem i_sum32 (l : List UInt8) (hl : l.length ≤ 2 ^ 40) : CallD Try.prog id_impl_sum32 [vY l] [] (vI .i64 (sumH 2166136261 l)) [] := by
  refine F_impl_sum32 ?_
  have h1 := sumH_lt (h := 2166136261) (by omega) l
  try (conv => whnf)
  refine Hand.mk [] ?_
  try (conv => whnf)
  refine CallW.d (i_sumOn 2166136261 l (by omega) hl) ?_
  try (conv => whnf)
  repeat (refine Pick.mk ?_ ?_ ?_; rotate_left; (focus ((refine wid ?_ ?_ <;> omega))); conv => whnf)
  refine Out.mk true [] [] ?_
  try (conv => whnf)
  exact ⟨rfl, rfl⟩
theorem i_append4' (l : List UInt8) (n : Nat) (v : Int) (hn : n = l.length) (hl : n ≤ 100000) (h0 : 0 ≤ v) (h1 : v < 2 ^ 62) : CallMD Try.prog id_impl_append4 [.one (.os 0 1 0 n), vI .i64 v] [.own 1 (l.map byD)] [0] (.one (.os 0 1 0 (n + 4))) [.own 1 ((l ++ four v).map byD)] := by
  refine F_impl_append4 ?_
  try (conv => whnf)
  repeat (first
    | (refine Need.mk ?_ ?_; (focus (omega)); conv => whnf)
    | (refine Pick.mk ?_ ?_ ?_; rotate_left; (focus (first | (simp only [List.length_map, List.length_append, List.length_cons, List.length_nil, List.length_replicate, Nat.zero_add]; rfl) | (simp only [chunks]; rfl) | exact shr8 _ | exact shr16 _ | exact shr24 _ | exact wbyte _ | (refine SlOf.full ?_; first | (simp; done) | (simp; omega)) | ((fail_if_success (show @Eq (Option _) _ _)); rfl))); conv => whnf))
  refine Out.mk false [0, 1, 2, 3, 4] [] ?_
  try (conv => whnf)
  repeat (refine Need.mk ?_ ?_; (focus ((refine flat_app ?_ ?_ <;> (first | exact flat_by _ | exact flat_in _ | exact flat_st _ | exact flat_ts _ | exact flat_bo _ | exact flat_cl rfl)))); conv => whnf)
  exact ⟨rfl, by simp [four]⟩
theorem i_recordBytes (o : OpV) (h : OpOk o) : CallD Try.prog id_impl_recordBytes [vO o] [] (.one (.os 0 1 0 (recB o).length)) [.own 1 ((recB o).map byD)] := by
  refine F_impl_recordBytes ?_
  have hb := opB_len h
  have hp := put_len (n := (opB o).length) (by omega)
  have h1 := sumH_lt (h := 2166136261) (by omega) (opB o)
  try (conv => whnf)
  refine Hand.mk [] ?_
  try (conv => whnf)
  refine CallW.d (i_opBytes o h) ?_
  try (conv => whnf)
  refine Hand.mk [] ?_
  try (conv => whnf)
  refine CallW.d (i_appendInt_nil (opB o).length (by omega)) ?_
  try (conv => whnf)
  repeat (first
    | (refine Need.mk ?_ ?_; (focus (omega)); conv => whnf)
    | (refine Pick.mk ?_ ?_ ?_; rotate_left; (focus (first | (simp only [List.length_map, List.length_append, List.length_cons, List.length_nil, List.length_replicate, Nat.zero_add]; rfl) | with_reducible exact map_app _ _ _ | (refine SlOf.full ?_; first | (simp; done) | (simp; omega)))); conv => whnf))
  refine Hand.mk [] ?_
  try (conv => whnf)
  repeat (refine Pick.mk ?_ ?_ ?_; rotate_left; (focus ((refine SlOf.full ?_; first | (simp; done) | (simp; omega)))); conv => whnf)
  refine CallW.d (i_sum32 (opB o) (by omega)) ?_
  try (conv => whnf)
  refine Hand.mk [0] ?_
  try (conv => whnf)
  refine CallW.m (i_append4' (put (opB o).length ++ opB o) _ (sumH 2166136261 (opB o)) (by simp) (by omega) (by omega) (by omega)) ?_
  try (conv => whnf)
  refine Out.mk false [0, 1, 2, 3, 4] [] ?_
  try (conv => whnf)
  repeat (refine Need.mk ?_ ?_; (focus ((first | exact flat_by _ | exact flat_in _ | exact flat_st _ | exact flat_ts _ | exact flat_bo _ | exact flat_cl rfl))); conv => whnf)
  exact ⟨by simp [recB]; omega, by simp [recB]⟩
theorem s_l13Bytes (o : OpV) (h : OpOk o) : CallD Try.prog id_spec_l13Bytes [vO o] [] (.one (.os 0 1 0 (recB o).length)) [.own 1 ((recB o).map byD)] := by
  refine F_spec_l13Bytes ?_
  have hb := opB_len h
  have hp := put_len (n := (opB o).length) (by omega)
  have h1 := sumH_lt (h := 2166136261) (by omega) (opB o)
  try (conv => whnf)
  refine Hand.mk [] ?_
  try (conv => whnf)
  refine CallW.d (s_l12Bytes o h) ?_
  try (conv => whnf)
  refine Hand.mk [] ?_
  try (conv => whnf)
  refine CallW.d (s_l01Put (opB o).length (by omega)) ?_
  try (conv => whnf)
  repeat (first
    | (refine Need.mk ?_ ?_; (focus (omega)); conv => whnf)
    | (refine Pick.mk ?_ ?_ ?_; rotate_left; (focus (first | (simp only [List.length_map, List.length_append, List.length_cons, List.length_nil, List.length_replicate, Nat.zero_add]; rfl) | with_reducible exact map_app _ _ _ | (refine SlOf.full ?_; first | (simp; done) | (simp; omega)))); conv => whnf))
  refine Hand.mk [] ?_
  try (conv => whnf)
  repeat (refine Pick.mk ?_ ?_ ?_; rotate_left; (focus ((refine SlOf.full ?_; first | (simp; done) | (simp; omega)))); conv => whnf)
  refine CallW.d (s_Sum32 (opB o) (by omega)) ?_
  try (conv => whnf)
  refine Hand.mk [] ?_
  try (conv => whnf)
  refine CallW.d (s_l01Four (sumH 2166136261 (opB o)) (by omega) (by omega)) ?_
  try (conv => whnf)
  repeat (first
    | (refine Need.mk ?_ ?_; (focus ((simp; omega))); conv => whnf)
    | (refine Pick.mk ?_ ?_ ?_; rotate_left; (focus (first | (simp only [List.length_map, List.length_append, List.length_cons, List.length_nil, List.length_replicate, Nat.zero_add]; rfl) | with_reducible exact map_app _ _ _ | (refine SlOf.full ?_; first | (simp; done) | (simp; omega)))); conv => whnf))
  refine Out.mk false [0, 1, 2, 3, 4] [] ?_
  try (conv => whnf)
  repeat (refine Need.mk ?_ ?_; (focus ((first | exact flat_by _ | exact flat_in _ | exact flat_st _ | exact flat_ts _ | exact flat_bo _ | exact flat_cl rfl))); conv => whnf)
  exact ⟨by simp [recB]; omega, by simp [recB]⟩
/-- What both give back for an operation: its bytes by f, and 0; or none, and 1. -/
def opR (f : OpV → List UInt8) (o : OpV) : SV := .tup [(false, [.os 0 1 0 (if OpOk o then f o else []).length]), (false, [cI (if OpOk o then 0 else 1)])]
def opRs (f : OpV → List UInt8) (o : OpV) : List Row := [.own 1 ((if OpOk o then f o else []).map byD)]
theorem i_OpBytes (o : OpV) (hk : o.key.length ≤ 2 ^ 40) (ht : o.text.length ≤ 2 ^ 40) : CallD Try.prog id_impl_OpBytes [vO o] [] (opR opB o) (opRs opB o) := by
    refine F_impl_OpBytes ?_
    try (conv => whnf)
    refine Hand.mk [] ?_
    try (conv => whnf)
    refine CallW.d (i_opOK o hk ht) ?_
    try (conv => whnf)
    by_cases h : OpOk o
    · try (conv => whnf)
      repeat' (first
        | (refine br_dec (fun _ => ?_) (fun _ => ?_) <;> first | (exfalso; omega) | contradiction | conv => whnf)
        | (refine br_not ?_; conv => whnf)
        | (refine br_bne (fun _ => ?_) (fun _ => ?_) <;> first | (exfalso; omega) | contradiction | conv => whnf)
        | (refine br_beq (fun _ => ?_) (fun _ => ?_) <;> first | (exfalso; omega) | contradiction | conv => whnf))
      refine Hand.mk [] ?_
      try (conv => whnf)
      refine CallW.d (i_opBytes o h) ?_
      try (conv => whnf)
      refine Out.mk false [0, 1, 2, 3, 4] [] ?_
      try (conv => whnf)
      repeat (refine Need.mk ?_ ?_; (focus ((first | exact flat_by _ | exact flat_in _ | exact flat_st _ | exact flat_ts _ | exact flat_bo _ | exact flat_cl rfl))); conv => whnf)
      exact ⟨by simp [opR, h], by simp [opRs, h]⟩
    · try (conv => whnf)
      repeat' (first
        | (refine br_dec (fun _ => ?_) (fun _ => ?_) <;> first | (exfalso; omega) | contradiction | conv => whnf)
        | (refine br_not ?_; conv => whnf)
        | (refine br_bne (fun _ => ?_) (fun _ => ?_) <;> first | (exfalso; omega) | contradiction | conv => whnf)
        | (refine br_beq (fun _ => ?_) (fun _ => ?_) <;> first | (exfalso; omega) | contradiction | conv => whnf))
      refine Out.mk false [0, 1, 2, 3, 4] [(0, 1)] ?_
      try (conv => whnf)
      repeat (refine Need.mk ?_ ?_; (focus ((first | exact flat_by _ | exact flat_in _ | exact flat_st _ | exact flat_ts _ | exact flat_bo _ | exact flat_cl rfl))); conv => whnf)
      exact ⟨by simp [opR, h], by simp [opRs, h]⟩
theorem i_RecordBytes (o : OpV) (hk : o.key.length ≤ 2 ^ 40) (ht : o.text.length ≤ 2 ^ 40) : CallD Try.prog id_impl_RecordBytes [vO o] [] (opR recB o) (opRs recB o) := by
    refine F_impl_RecordBytes ?_
    try (conv => whnf)
    refine Hand.mk [] ?_
    try (conv => whnf)
    refine CallW.d (i_opOK o hk ht) ?_
    try (conv => whnf)
    by_cases h : OpOk o
    · try (conv => whnf)
      repeat' (first
        | (refine br_dec (fun _ => ?_) (fun _ => ?_) <;> first | (exfalso; omega) | contradiction | conv => whnf)
        | (refine br_not ?_; conv => whnf)
        | (refine br_bne (fun _ => ?_) (fun _ => ?_) <;> first | (exfalso; omega) | contradiction | conv => whnf)
        | (refine br_beq (fun _ => ?_) (fun _ => ?_) <;> first | (exfalso; omega) | contradiction | conv => whnf))
      refine Hand.mk [] ?_
      try (conv => whnf)
      refine CallW.d (i_recordBytes o h) ?_
      try (conv => whnf)
      refine Out.mk false [0, 1, 2, 3, 4] [] ?_
      try (conv => whnf)
      repeat (refine Need.mk ?_ ?_; (focus ((first | exact flat_by _ | exact flat_in _ | exact flat_st _ | exact flat_ts _ | exact flat_bo _ | exact flat_cl rfl))); conv => whnf)
      exact ⟨by simp [opR, h], by simp [opRs, h]⟩
    · try (conv => whnf)
      repeat' (first
        | (refine br_dec (fun _ => ?_) (fun _ => ?_) <;> first | (exfalso; omega) | contradiction | conv => whnf)
        | (refine br_not ?_; conv => whnf)
        | (refine br_bne (fun _ => ?_) (fun _ => ?_) <;> first | (exfalso; omega) | contradiction | conv => whnf)
        | (refine br_beq (fun _ => ?_) (fun _ => ?_) <;> first | (exfalso; omega) | contradiction | conv => whnf))
      refine Out.mk false [0, 1, 2, 3, 4] [(0, 1)] ?_
      try (conv => whnf)
      repeat (refine Need.mk ?_ ?_; (focus ((first | exact flat_by _ | exact flat_in _ | exact flat_st _ | exact flat_ts _ | exact flat_bo _ | exact flat_cl rfl))); conv => whnf)
      exact ⟨by simp [opR, h], by simp [opRs, h]⟩
theorem s_OpBytes (o : OpV) (hk : o.key.length ≤ 2 ^ 40) (ht : o.text.length ≤ 2 ^ 40) : CallD Try.prog id_spec_OpBytes [vO o] [] (opR opB o) (opRs opB o) := by
    refine F_spec_OpBytes ?_
    try (conv => whnf)
    refine Hand.mk [] ?_
    try (conv => whnf)
    refine CallW.d (s_l08OpOK o hk ht) ?_
    try (conv => whnf)
    by_cases h : OpOk o
    · try (conv => whnf)
      repeat' (first
        | (refine br_dec (fun _ => ?_) (fun _ => ?_) <;> first | (exfalso; omega) | contradiction | conv => whnf)
        | (refine br_not ?_; conv => whnf)
        | (refine br_bne (fun _ => ?_) (fun _ => ?_) <;> first | (exfalso; omega) | contradiction | conv => whnf)
        | (refine br_beq (fun _ => ?_) (fun _ => ?_) <;> first | (exfalso; omega) | contradiction | conv => whnf))
      refine Hand.mk [] ?_
      try (conv => whnf)
      refine CallW.d (s_l12Bytes o h) ?_
      try (conv => whnf)
      refine Out.mk false [0, 1, 2, 3, 4] [] ?_
      try (conv => whnf)
      repeat (refine Need.mk ?_ ?_; (focus ((first | exact flat_by _ | exact flat_in _ | exact flat_st _ | exact flat_ts _ | exact flat_bo _ | exact flat_cl rfl))); conv => whnf)
      exact ⟨by simp [opR, h], by simp [opRs, h]⟩
    · try (conv => whnf)
      repeat' (first
        | (refine Pick.mk ?_ ?_ ?_; rotate_left; (focus ((simp only [chunks]; rfl))); conv => whnf)
        | (refine br_dec (fun _ => ?_) (fun _ => ?_) <;> first | (exfalso; omega) | contradiction | conv => whnf)
        | (refine br_not ?_; conv => whnf)
        | (refine br_bne (fun _ => ?_) (fun _ => ?_) <;> first | (exfalso; omega) | contradiction | conv => whnf)
        | (refine br_beq (fun _ => ?_) (fun _ => ?_) <;> first | (exfalso; omega) | contradiction | conv => whnf))
      refine Out.mk false [0, 1, 2, 3, 4] [] ?_
      try (conv => whnf)
      repeat (refine Need.mk ?_ ?_; (focus ((first | exact flat_by _ | exact flat_in _ | exact flat_st _ | exact flat_ts _ | exact flat_bo _ | exact flat_cl rfl))); conv => whnf)
      exact ⟨by simp [opR, h], by simp [opRs, h]⟩
theorem s_RecordBytes (o : OpV) (hk : o.key.length ≤ 2 ^ 40) (ht : o.text.length ≤ 2 ^ 40) : CallD Try.prog id_spec_RecordBytes [vO o] [] (opR recB o) (opRs recB o) := by
    refine F_spec_RecordBytes ?_
    try (conv => whnf)
    refine Hand.mk [] ?_
    try (conv => whnf)
    refine CallW.d (s_l08OpOK o hk ht) ?_
    try (conv => whnf)
    by_cases h : OpOk o
    · try (conv => whnf)
      repeat' (first
        | (refine br_dec (fun _ => ?_) (fun _ => ?_) <;> first | (exfalso; omega) | contradiction | conv => whnf)
        | (refine br_not ?_; conv => whnf)
        | (refine br_bne (fun _ => ?_) (fun _ => ?_) <;> first | (exfalso; omega) | contradiction | conv => whnf)
        | (refine br_beq (fun _ => ?_) (fun _ => ?_) <;> first | (exfalso; omega) | contradiction | conv => whnf))
      refine Hand.mk [] ?_
      try (conv => whnf)
      refine CallW.d (s_l13Bytes o h) ?_
      try (conv => whnf)
      refine Out.mk false [0, 1, 2, 3, 4] [] ?_
      try (conv => whnf)
      repeat (refine Need.mk ?_ ?_; (focus ((first | exact flat_by _ | exact flat_in _ | exact flat_st _ | exact flat_ts _ | exact flat_bo _ | exact flat_cl rfl))); conv => whnf)
      exact ⟨by simp [opR, h], by simp [opRs, h]⟩
    · try (conv => whnf)
      repeat' (first
        | (refine Pick.mk ?_ ?_ ?_; rotate_left; (focus ((simp only [chunks]; rfl))); conv => whnf)
        | (refine br_dec (fun _ => ?_) (fun _ => ?_) <;> first | (exfalso; omega) | contradiction | conv => whnf)
        | (refine br_not ?_; conv => whnf)
        | (refine br_bne (fun _ => ?_) (fun _ => ?_) <;> first | (exfalso; omega) | contradiction | conv => whnf)
        | (refine br_beq (fun _ => ?_) (fun _ => ?_) <;> first | (exfalso; omega) | contradiction | conv => whnf))
      refine Out.mk false [0, 1, 2, 3, 4] [] ?_
      try (conv => whnf)
      repeat (refine Need.mk ?_ ?_; (focus ((first | exact flat_by _ | exact flat_in _ | exact flat_st _ | exact flat_ts _ | exact flat_bo _ | exact flat_cl rfl))); conv => whnf)
      exact ⟨by simp [opR, h], by simp [opRs, h]⟩
end Go.Proofs.Ytoklfidamhigcaa.D
