/- The law of sealing, as a call that gives back true. -/
import Derived.Test.YtpapcelgdcbolaaOpen
import Derived.Test.YtpapcelgdcbolaaLawBy
namespace Go.Proofs.Ytpapcelgdcbolaa.D
open Go.RowKit
set_option maxRecDepth 100000
set_option linter.unusedVariables false
set_option linter.unusedSimpArgs false

theorem law_SealText (key : List UInt8) (n : Int) (t : List UInt8) (hk : key.length ≤ 2 ^ 47) (ht : t.length ≤ 2 ^ 47) :
    CallD Try.prog id_laws_FnExactSealText [vY key, vI .i64 n, vS (bs t)] [] (vB true) [] := by
  refine F_laws_FnExactSealText ?_
  have hB : (sealB key n t).length ≤ 2 ^ 30 := by rw [sealB]; split <;> simp; rename_i h; rw [sealC] at h; omega
  try (conv => whnf)
  repeat' (first
    | (refine Pick.mk ?_ ?_ ?_; rotate_left; (focus (first | exact List.length_map _ | exact size_bs _)); conv => whnf)
    | (refine br_dec (fun _ => ?_) (fun _ => ?_) <;> first | (exfalso; omega) | contradiction | conv => whnf)
    | (refine br_not ?_; conv => whnf)
    | (refine br_bne (fun _ => ?_) (fun _ => ?_) <;> first | (exfalso; omega) | contradiction | conv => whnf)
    | (refine br_beq (fun _ => ?_) (fun _ => ?_) <;> first | (exfalso; omega) | contradiction | conv => whnf))
  rotate_left 2
  · refine Hand.mk [] ?_
    try (conv => whnf)
    refine CallW.d (l_toByteS key (by omega)) ?_
    try (conv => whnf)
    refine Hand.mk [] ?_
    try (conv => whnf)
    repeat (refine Pick.mk ?_ ?_ ?_; rotate_left; (focus ((refine SlOf.full ?_; first | (simp; done) | (simp; omega)))); conv => whnf)
    refine CallW.d (s_SealText key n t (by omega) (by omega)) ?_
    try (conv => whnf)
    refine Hand.mk [] ?_
    try (conv => whnf)
    refine CallW.d (l_toByteS key (by omega)) ?_
    try (conv => whnf)
    refine Hand.mk [] ?_
    try (conv => whnf)
    repeat (refine Pick.mk ?_ ?_ ?_; rotate_left; (focus ((refine SlOf.full ?_; first | (simp; done) | (simp; omega)))); conv => whnf)
    refine CallW.d (i_SealText key n t (by omega) (by omega)) ?_
    try (conv => whnf)
    refine Hand.mk [] ?_
    try (conv => whnf)
    repeat (refine Pick.mk ?_ ?_ ?_; rotate_left; (focus ((refine SlOf.full ?_; first | (simp; done) | (simp; omega)))); conv => whnf)
    refine CallW.d (l_eqByteS (sealB key n t) (sealB key n t) (by omega) (by omega)) ?_
    try (conv => whnf)
    try (conv => whnf)
    repeat' (first
      | (refine br_dec (fun _ => ?_) (fun _ => ?_) <;> first | (exfalso; omega) | contradiction | conv => whnf)
      | (refine br_not ?_; conv => whnf)
      | (refine br_bne (fun _ => ?_) (fun _ => ?_) <;> first | (exfalso; omega) | contradiction | conv => whnf)
      | (refine br_beq (fun _ => ?_) (fun _ => ?_) <;> first | (exfalso; omega) | contradiction | conv => whnf))
    refine Hand.mk [] ?_
    try (conv => whnf)
    refine CallW.d (l_toByteS key (by omega)) ?_
    try (conv => whnf)
    refine Hand.mk [] ?_
    try (conv => whnf)
    repeat (refine Pick.mk ?_ ?_ ?_; rotate_left; (focus ((refine SlOf.full ?_; first | (simp; done) | (simp; omega)))); conv => whnf)
    refine CallW.d (l_eqByteS key key (by omega) (by omega)) ?_
    try (conv => whnf)
    try (conv => whnf)
    repeat' (first
      | (refine br_dec (fun _ => ?_) (fun _ => ?_) <;> first | (exfalso; omega) | contradiction | conv => whnf)
      | (refine br_not ?_; conv => whnf)
      | (refine br_bne (fun _ => ?_) (fun _ => ?_) <;> first | (exfalso; omega) | contradiction | conv => whnf)
      | (refine br_beq (fun _ => ?_) (fun _ => ?_) <;> first | (exfalso; omega) | contradiction | conv => whnf))
    refine Hand.mk [0] ?_
    try (conv => whnf)
    refine CallW.m (l_markByteS key _ (by omega) (by omega) (by omega)) ?_
    try (conv => whnf)
    try (conv => whnf)
    repeat' (first
      | (refine br_dec (fun _ => ?_) (fun _ => ?_) <;> first | (exfalso; omega) | contradiction | conv => whnf)
      | (refine br_not ?_; conv => whnf)
      | (refine br_bne (fun _ => ?_) (fun _ => ?_) <;> first | (exfalso; omega) | contradiction | conv => whnf)
      | (refine br_beq (fun _ => ?_) (fun _ => ?_) <;> first | (exfalso; omega) | contradiction | conv => whnf))
    refine Hand.mk [] ?_
    try (conv => whnf)
    repeat (refine Pick.mk ?_ ?_ ?_; rotate_left; (focus ((refine SlOf.full ?_; first | (simp; done) | (simp; omega)))); conv => whnf)
    refine CallW.d (l_eqByteS (sealB key n t) (sealB key n t) (by omega) (by omega)) ?_
    try (conv => whnf)
    try (conv => whnf)
    repeat' (first
      | (refine br_dec (fun _ => ?_) (fun _ => ?_) <;> first | (exfalso; omega) | contradiction | conv => whnf)
      | (refine br_not ?_; conv => whnf)
      | (refine br_bne (fun _ => ?_) (fun _ => ?_) <;> first | (exfalso; omega) | contradiction | conv => whnf)
      | (refine br_beq (fun _ => ?_) (fun _ => ?_) <;> first | (exfalso; omega) | contradiction | conv => whnf))
    refine Hand.mk [0] ?_
    try (conv => whnf)
    refine CallW.m (l_markByteS (sealB key n t) _ (by omega) (by omega) (by omega)) ?_
    try (conv => whnf)
    refine Hand.mk [] ?_
    try (conv => whnf)
    repeat (refine Pick.mk ?_ ?_ ?_; rotate_left; (focus ((refine SlOf.full ?_; first | (simp; done) | (simp; omega)))); conv => whnf)
    refine CallW.d (l_heldByteS _ _ (by omega) (by omega) (by omega)) ?_
    try (conv => whnf)
    try (conv => whnf)
    repeat' (first
      | (refine br_dec (fun _ => ?_) (fun _ => ?_) <;> first | (exfalso; omega) | contradiction | conv => whnf)
      | (refine br_not ?_; conv => whnf)
      | (refine br_bne (fun _ => ?_) (fun _ => ?_) <;> first | (exfalso; omega) | contradiction | conv => whnf)
      | (refine br_beq (fun _ => ?_) (fun _ => ?_) <;> first | (exfalso; omega) | contradiction | conv => whnf))
    refine Hand.mk [] ?_
    try (conv => whnf)
    refine CallW.d (l_toByteS key (by omega)) ?_
    try (conv => whnf)
    refine Hand.mk [] ?_
    try (conv => whnf)
    repeat (refine Pick.mk ?_ ?_ ?_; rotate_left; (focus ((refine SlOf.full ?_; first | (simp; done) | (simp; omega)))); conv => whnf)
    refine CallW.d (i_SealText key n t (by omega) (by omega)) ?_
    try (conv => whnf)
    refine Hand.mk [] ?_
    try (conv => whnf)
    repeat (refine Pick.mk ?_ ?_ ?_; rotate_left; (focus ((refine SlOf.full ?_; first | (simp; done) | (simp; omega)))); conv => whnf)
    refine CallW.d (l_eqByteS (sealB key n t) (sealB key n t) (by omega) (by omega)) ?_
    try (conv => whnf)
    try (conv => whnf)
    repeat' (first
      | (refine br_dec (fun _ => ?_) (fun _ => ?_) <;> first | (exfalso; omega) | contradiction | conv => whnf)
      | (refine br_not ?_; conv => whnf)
      | (refine br_bne (fun _ => ?_) (fun _ => ?_) <;> first | (exfalso; omega) | contradiction | conv => whnf)
      | (refine br_beq (fun _ => ?_) (fun _ => ?_) <;> first | (exfalso; omega) | contradiction | conv => whnf))
    refine Hand.mk [] ?_
    try (conv => whnf)
    repeat (refine Pick.mk ?_ ?_ ?_; rotate_left; (focus ((refine SlOf.full ?_; first | (simp; done) | (simp; omega)))); conv => whnf)
    refine CallW.d (l_heldByteS _ _ (by omega) (by omega) (by omega)) ?_
    try (conv => whnf)
    try (conv => whnf)
    repeat' (first
      | (refine br_dec (fun _ => ?_) (fun _ => ?_) <;> first | (exfalso; omega) | contradiction | conv => whnf)
      | (refine br_not ?_; conv => whnf)
      | (refine br_bne (fun _ => ?_) (fun _ => ?_) <;> first | (exfalso; omega) | contradiction | conv => whnf)
      | (refine br_beq (fun _ => ?_) (fun _ => ?_) <;> first | (exfalso; omega) | contradiction | conv => whnf))
    refine Out.mk true [] [] ?_
    try (conv => whnf)
    exact ⟨rfl, rfl⟩
  all_goals
    refine Out.mk true [] [] ?_
    try (conv => whnf)
  all_goals exact ⟨rfl, rfl⟩
end Go.Proofs.Ytpapcelgdcbolaa.D
