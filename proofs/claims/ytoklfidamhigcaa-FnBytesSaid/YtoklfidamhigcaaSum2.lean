/- The sums of bytes under a key, by the program: what each function gives back. -/
import Derived.Test.YtoklfidamhigcaaSum
namespace Go.Proofs.Ytoklfidamhigcaa.D
open Go.RowKit
set_option maxRecDepth 100000
set_option linter.unusedVariables false
set_option linter.unusedSimpArgs false

theorem i_append4_nil (v : Int) (h0 : 0 ≤ v) (h1 : v < 2 ^ 62) : CallD Try.prog id_impl_append4 [.one .nil, vI .i64 v] [] (.one (.os 0 1 0 4)) [.own 1 ((four v).map byD)] := by
  refine F_impl_append4 ?_
  try (conv => whnf)
  repeat (first
    | (refine Need.mk ?_ ?_; (focus (omega)); conv => whnf)
    | (refine Pick.mk ?_ ?_ ?_; rotate_left; (focus (first | (simp only [List.length_map, List.length_append, List.length_cons, List.length_nil, List.length_replicate, Nat.zero_add]; rfl) | (simp only [chunks]; rfl) | exact shr8 _ | exact shr16 _ | exact shr24 _ | exact wbyte _ | (refine SlOf.full ?_; first | (simp; done) | (simp; omega)))); conv => whnf))
  refine Out.mk false [0, 1, 2, 3, 4] [] ?_
  try (conv => whnf)
  repeat (refine Need.mk ?_ ?_; (focus ((first | exact flat_by _ | exact flat_in _ | exact flat_st _ | exact flat_ts _ | exact flat_bo _ | exact flat_cl rfl))); conv => whnf)
  exact ⟨rfl, by simp [four]⟩
theorem i_append4 (l : List UInt8) (n : Nat) (v : Int) (hn : n = l.length) (hl : n ≤ 1000) (h0 : 0 ≤ v) (h1 : v < 2 ^ 62) : CallMD Try.prog id_impl_append4 [.one (.os 0 1 0 n), vI .i64 v] [.own 1 (l.map byD)] [0] (.one (.os 0 1 0 (n + 4))) [.own 1 ((l ++ four v).map byD)] := by
  refine F_impl_append4 ?_
  try (conv => whnf)
  repeat (first
    | (refine Need.mk ?_ ?_; (focus (omega)); conv => whnf)
    | (refine Pick.mk ?_ ?_ ?_; rotate_left; (focus (first | (simp only [List.length_map, List.length_append, List.length_cons, List.length_nil, List.length_replicate, Nat.zero_add]; rfl) | (simp only [chunks]; rfl) | exact shr8 _ | exact shr16 _ | exact shr24 _ | exact wbyte _ | (refine SlOf.full ?_; first | (simp; done) | (simp; omega)) | ((fail_if_success (show @Eq (Option _) _ _)); rfl))); conv => whnf))
  refine Out.mk false [0, 1, 2, 3, 4] [] ?_
  try (conv => whnf)
  repeat (refine Need.mk ?_ ?_; (focus ((refine flat_app ?_ ?_ <;> (first | exact flat_by _ | exact flat_in _ | exact flat_st _ | exact flat_ts _ | exact flat_bo _ | exact flat_cl rfl)))); conv => whnf)
  exact ⟨rfl, by simp [four]⟩
theorem four_hi (v : Int) (h0 : 0 ≤ v) : four (v / 4294967296) ++ four v = eight v := by
  simp only [eight, four, u8]
  have : ∀ a b : Int, a % 256 = b % 256 → UInt8.ofNat (a % 256).toNat = UInt8.ofNat (b % 256).toNat := fun a b h => by rw [h]
  congr 1
  simp only [List.cons.injEq, and_true]
  exact ⟨this _ _ (by omega), this _ _ (by omega), this _ _ (by omega), this _ _ (by omega)⟩
theorem i_append8_nil (v : Int) (h0 : 0 ≤ v) (h1 : v < 2 ^ 62) : CallD Try.prog id_impl_append8 [.one .nil, vI .i64 v] [] (.one (.os 0 1 0 8)) [.own 1 ((eight v).map byD)] := by
  refine F_impl_append8 ?_
  try (conv => whnf)
  repeat (first
    | (refine Need.mk ?_ ?_; (focus (omega)); conv => whnf)
    | (refine Pick.mk ?_ ?_ ?_; rotate_left; (focus (exact shr32 _)); conv => whnf))
  refine Hand.mk [] ?_
  try (conv => whnf)
  refine CallW.d (i_append4_nil _ (by omega) (by omega)) ?_
  try (conv => whnf)
  refine Hand.mk [0] ?_
  try (conv => whnf)
  refine CallW.m (i_append4 _ _ _ rfl (by omega) (by omega) (by omega)) ?_
  try (conv => whnf)
  refine Out.mk false [0, 1, 2, 3, 4] [] ?_
  try (conv => whnf)
  repeat (refine Need.mk ?_ ?_; (focus ((first | exact flat_by _ | exact flat_in _ | exact flat_st _ | exact flat_ts _ | exact flat_bo _ | exact flat_cl rfl))); conv => whnf)
  rw [four_hi v h0]
  exact ⟨rfl, rfl⟩
theorem i_append8 (l : List UInt8) (n : Nat) (v : Int) (hn : n = l.length) (hl : n ≤ 900) (h0 : 0 ≤ v) (h1 : v < 2 ^ 62) : CallMD Try.prog id_impl_append8 [.one (.os 0 1 0 n), vI .i64 v] [.own 1 (l.map byD)] [0] (.one (.os 0 1 0 (n + 8))) [.own 1 ((l ++ eight v).map byD)] := by
  refine F_impl_append8 ?_
  try (conv => whnf)
  repeat (first
    | (refine Need.mk ?_ ?_; (focus (omega)); conv => whnf)
    | (refine Pick.mk ?_ ?_ ?_; rotate_left; (focus (exact shr32 _)); conv => whnf))
  refine Hand.mk [0] ?_
  try (conv => whnf)
  refine CallW.m (i_append4 l _ _ hn (by omega) (by omega) (by omega)) ?_
  try (conv => whnf)
  refine Hand.mk [0] ?_
  try (conv => whnf)
  refine CallW.m (i_append4 _ _ _ (by simp; omega) (by omega) (by omega) (by omega)) ?_
  try (conv => whnf)
  refine Out.mk false [0, 1, 2, 3, 4] [] ?_
  try (conv => whnf)
  repeat (refine Need.mk ?_ ?_; (focus ((first | exact flat_by _ | exact flat_in _ | exact flat_st _ | exact flat_ts _ | exact flat_bo _ | exact flat_cl rfl))); conv => whnf)
  rw [List.append_assoc, four_hi v h0]
  exact ⟨rfl, rfl⟩
theorem i_sumOn (h : Nat) (l : List UInt8) (hh : h < 4294967296) (hl : l.length ≤ 2 ^ 40) : CallD Try.prog id_impl_sumOn [vI .u32 h, vY l] [] (vI .u32 (sumH h l)) [] := by
  refine F_impl_sumOn ?_
  try (conv => whnf)
  repeat (refine Pick.mk ?_ ?_ ?_; rotate_left; (focus (exact List.length_map _)); conv => whnf)
  refine LoopE.mk (fun i : Nat => mk [(7, vY l), (8, vI .i64 l.length), (0, vI .u32 (sumH h (l.take i))), (9, vI .i64 i)] []) (fun i => i ≤ l.length) (fun i => l.length - i) 0 (by omega) (LeX.of ?_) ?_
  · try (conv => whnf)
    repeat (refine Need.mk ?_ ?_; (focus (first | omega | (simp; done) | rfl)); conv => whnf)
    trivial
  · intro i hi
    try (conv => whnf)
    repeat (refine SeqJ.thru ?_; conv => whnf)
    refine br_dec (fun h9 => ?_) (fun h9 => ?_)
    · simp at h9
      have h1 := sumH_lt hh (l.take i)
      have h2 := l[i].toNat_lt
      have h3 : sumH h (l.take i) ^^^ l[i].toNat < 2 ^ 32 := Nat.xor_lt_two_pow (by omega) (by omega)
      try (conv => whnf)
      repeat (first
        | (refine Pick.mk ?_ ?_ ?_; rotate_left; (focus (first | (with_reducible refine xor_u32 ?_ ?_; all_goals omega) | (refine wid ?_ ?_ <;> omega) | with_reducible exact wby32 _ | with_reducible exact wu32 _ | (refine pick_nat _ _ _ ?_; omega))); conv => whnf)
        | (refine SeqJ.thru ?_; conv => whnf))
      have h4 := sumH_take (h := h) h9
      simp only [stepH] at h4
      refine Pick.mk (i + 1) (by constructor <;> first | omega | (simp only []; omega)) (LeX.of ?_)
      try (conv => whnf)
      repeat (refine Need.mk ?_ ?_; (focus (first | omega | (simp; done))); conv => whnf)
      trivial
    · simp at h9
      try (conv => whnf)
      refine Out.mk true [] [] ?_
      try (conv => whnf)
      rw [List.take_of_length_le (by omega)]
      exact ⟨rfl, rfl⟩
end Go.Proofs.Ytoklfidamhigcaa.D
