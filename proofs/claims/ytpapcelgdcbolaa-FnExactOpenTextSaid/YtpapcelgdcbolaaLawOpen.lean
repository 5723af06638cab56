/- The law of opening, as a call that gives back true. -/
import Derived.Test.YtpapcelgdcbolaaOpen
import Derived.Test.YtpapcelgdcbolaaLawBy
namespace Go.Proofs.Ytpapcelgdcbolaa.D
open Go.RowKit
set_option maxRecDepth 100000
set_option linter.unusedVariables false
set_option linter.unusedSimpArgs false

theorem law_OpenText (key : List UInt8) (n : Int) (s : List UInt8) (hk : key.length ≤ 2 ^ 47) (hs : s.length ≤ 2 ^ 47) :
    CallD Try.prog id_laws_FnExactOpenText [vY key, vI .i64 n, vY s] [] (vB true) [] := by
  refine F_laws_FnExactOpenText ?_
  try (conv => whnf)
  repeat' (first
    | (refine Pick.mk ?_ ?_ ?_; rotate_left; (focus (exact List.length_map _)); conv => whnf)
    | (refine br_dec (fun _ => ?_) (fun _ => ?_) <;> first | (exfalso; omega) | contradiction | conv => whnf)
    | (refine br_not ?_; conv => whnf)
    | (refine br_bne (fun _ => ?_) (fun _ => ?_) <;> first | (exfalso; omega) | contradiction | conv => whnf)
    | (refine br_beq (fun _ => ?_) (fun _ => ?_) <;> first | (exfalso; omega) | contradiction | conv => whnf))
  rotate_left 2
  · skip
    refine Hand.mk [] ?_
    try (conv => whnf)
    refine CallW.d (l_toByteS key (by omega)) ?_
    try (conv => whnf)
    refine Hand.mk [] ?_
    try (conv => whnf)
    refine CallW.d (l_toByteS s (by omega)) ?_
    try (conv => whnf)
    refine Hand.mk [] ?_
    try (conv => whnf)
    repeat (refine Pick.mk ?_ ?_ ?_; rotate_left; (focus ((refine SlOf.full ?_; first | (simp; done) | (simp; omega)))); conv => whnf)
    refine CallW.d (s_OpenText key n s (by omega) (by omega)) ?_
    try (conv => whnf)
    refine Hand.mk [] ?_
    try (conv => whnf)
    refine CallW.d (l_toByteS key (by omega)) ?_
    try (conv => whnf)
    refine Hand.mk [] ?_
    try (conv => whnf)
    refine CallW.d (l_toByteS s (by omega)) ?_
    try (conv => whnf)
    refine Hand.mk [] ?_
    try (conv => whnf)
    repeat (refine Pick.mk ?_ ?_ ?_; rotate_left; (focus ((refine SlOf.full ?_; first | (simp; done) | (simp; omega)))); conv => whnf)
    refine CallW.d (i_OpenText key n s (by omega) (by omega)) ?_
    try (conv => whnf)
    repeat (refine Pick.mk ?_ ?_ ?_; rotate_left; (focus (exact bs_beq _ _)); conv => whnf)
    try (conv => whnf)
    repeat' (first
      | (refine br_dec (fun _ => ?_) (fun _ => ?_) <;> first | (exfalso; omega) | contradiction | conv => whnf)
      | (refine br_not ?_; conv => whnf)
      | (refine br_bne (fun _ => ?_) (fun _ => ?_) <;> first | (exfalso; omega) | contradiction | conv => whnf)
      | (refine br_beq (fun _ => ?_) (fun _ => ?_) <;> first | (exfalso; omega) | contradiction | conv => whnf))
    refine Hand.mk [] ?_
    try (conv => whnf)
    refine CallW.d (l_toByteS key (by omega)) ?_
    try (conv => whnf)
    refine Hand.mk [] ?_
    try (conv => whnf)
    repeat (refine Pick.mk ?_ ?_ ?_; rotate_left; (focus ((refine SlOf.full ?_; first | (simp; done) | (simp; omega)))); conv => whnf)
    refine CallW.d (l_eqByteS key key (by omega) (by omega)) ?_
    try (conv => whnf)
    try (conv => whnf)
    repeat' (first
      | (refine br_dec (fun _ => ?_) (fun _ => ?_) <;> first | (exfalso; omega) | contradiction | conv => whnf)
      | (refine br_not ?_; conv => whnf)
      | (refine br_bne (fun _ => ?_) (fun _ => ?_) <;> first | (exfalso; omega) | contradiction | conv => whnf)
      | (refine br_beq (fun _ => ?_) (fun _ => ?_) <;> first | (exfalso; omega) | contradiction | conv => whnf))
    refine Hand.mk [] ?_
    try (conv => whnf)
    refine CallW.d (l_toByteS s (by omega)) ?_
    try (conv => whnf)
    refine Hand.mk [] ?_
    try (conv => whnf)
    repeat (refine Pick.mk ?_ ?_ ?_; rotate_left; (focus ((refine SlOf.full ?_; first | (simp; done) | (simp; omega)))); conv => whnf)
    refine CallW.d (l_eqByteS s s (by omega) (by omega)) ?_
    try (conv => whnf)
    try (conv => whnf)
    repeat' (first
      | (refine br_dec (fun _ => ?_) (fun _ => ?_) <;> first | (exfalso; omega) | contradiction | conv => whnf)
      | (refine br_not ?_; conv => whnf)
      | (refine br_bne (fun _ => ?_) (fun _ => ?_) <;> first | (exfalso; omega) | contradiction | conv => whnf)
      | (refine br_beq (fun _ => ?_) (fun _ => ?_) <;> first | (exfalso; omega) | contradiction | conv => whnf))
    refine Out.mk true [] [] ?_
    try (conv => whnf)
    exact ⟨rfl, rfl⟩
  all_goals
    refine Out.mk true [] [] ?_
    try (conv => whnf)
  all_goals exact ⟨rfl, rfl⟩
end Go.Proofs.Ytpapcelgdcbolaa.D
