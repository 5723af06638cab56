/- The law of writing to a register of several, as a call that gives back true. -/
import Derived.Test.YtoklfidamhigcaaLawEnt
import Derived.Test.YtoklfidamhigcaaMul2
namespace Go.Proofs.Ytoklfidamhigcaa.D
open Go.RowKit
set_option maxRecDepth 100000
set_option maxHeartbeats 4000000
set_option linter.unusedVariables false
set_option linter.unusedSimpArgs false

theorem eTot_mem : ∀ {l : List EntV} {e : EntV} (h : e ∈ l), e.x.length ≤ eTot l
  | a :: l, e, h => by
    rcases List.mem_cons.1 h with rfl | h
    · simp [eTot]
    · have := eTot_mem h
      simp only [eTot, List.map_cons, List.sum_cons] at this ⊢
      omega
theorem mS_len (s : List Int) (l : List EntV) (a : Int) (x : List UInt8) (h : s.length ≤ 2 ^ 30) : (mS s l a x).length ≤ 2 ^ 30 := by
  rw [mS]
  split
  · rw [wS]
    split
    · simpa using h
    · simp
  · simp
theorem mE_len (s : List Int) (l : List EntV) (a : Int) (x : List UInt8) : (mE s l a x).length ≤ 1 := by
  rw [mE]
  split <;> simp
theorem mE_mem {s : List Int} {l : List EntV} {a : Int} {x : List UInt8} {e : EntV} (h : e ∈ mE s l a x) : e.x.length ≤ x.length := by
  rw [mE] at h
  split at h
  · simp at h
    subst h
    rw [wE]
    split <;> simp
  · simp at h
theorem law_MultiWrite (m : List Int × List EntV) (a : Int) (x : List UInt8) (h : m.1.length ≤ 9223372036854775807 ∧ m.2.length ≤ 9223372036854775807 ∧ ∀ e ∈ m.2, e.x.length ≤ 9223372036854775807) (hx : x.length ≤ 2 ^ 47) :
    CallD Try.prog id_laws_FnExactMultiWrite [vM m.1 m.2, vI .i64 a, vS (bs x)] [] (vB true) [] := by
  obtain ⟨s, l⟩ := m
  obtain ⟨hs, hl, hm⟩ := h
  dsimp only at hs hl hm ⊢
  refine F_laws_FnExactMultiWrite ?_
  try (conv => whnf)
  repeat' (first
    | (refine Pick.mk ?_ ?_ ?_; rotate_left; (focus (exact size_bs _)); conv => whnf)
    | (refine br_dec (fun _ => ?_) (fun _ => ?_) <;> first | (exfalso; omega) | contradiction | conv => whnf)
    | (refine br_not ?_; conv => whnf)
    | (refine br_bne (fun _ => ?_) (fun _ => ?_) <;> first | (exfalso; omega) | contradiction | conv => whnf)
    | (refine br_beq (fun _ => ?_) (fun _ => ?_) <;> first | (exfalso; omega) | contradiction | conv => whnf))
  · refine Out.mk true [] [] ?_
    try (conv => whnf)
    exact ⟨rfl, rfl⟩
  refine Hand.mk [] ?_
  try (conv => whnf)
  refine CallW.d (l_szMulti s l 1048576 hs hl hm (by omega) (by omega)) ?_
  try (conv => whnf)
  by_cases hz : (1048576 : Int) < (s.length + (l.length + eTot l) : Nat)
  · rw [show szL 1048576 (s.length + (l.length + eTot l)) = -1 from if_pos hz]
    try (conv => whnf)
    repeat' (first
      | (refine br_dec (fun _ => ?_) (fun _ => ?_) <;> first | (exfalso; omega) | contradiction | conv => whnf)
      | (refine br_not ?_; conv => whnf)
      | (refine br_bne (fun _ => ?_) (fun _ => ?_) <;> first | (exfalso; omega) | contradiction | conv => whnf)
      | (refine br_beq (fun _ => ?_) (fun _ => ?_) <;> first | (exfalso; omega) | contradiction | conv => whnf))
    refine Out.mk true [] [] ?_
    try (conv => whnf)
    exact ⟨rfl, rfl⟩
  rw [show szL 1048576 (s.length + (l.length + eTot l)) = 1048576 - (s.length + (l.length + eTot l) : Nat) from if_neg hz]
  have c1 := s_MultiWrite s l a x (by omega) (fun e he => by have := eTot_mem he; omega) (by omega)
  have c2 := i_MultiWrite s l a x (by omega) (fun e he => by have := eTot_mem he; omega) (by omega)
  have b1 := mS_len s l a x (by omega)
  have b2 := mE_len s l a x
  have b3 : ∀ e ∈ mE s l a x, e.x.length ≤ 2 ^ 62 := fun e he => by
    have := mE_mem he
    omega
  rw [mR, mRows] at c1 c2
  generalize mS s l a x = S at c1 c2 b1
  generalize mE s l a x = E at c1 c2 b2 b3
  generalize mC s l a x = c at c1 c2
  try (conv => whnf)
  repeat' (first
    | (refine br_dec (fun _ => ?_) (fun _ => ?_) <;> first | (exfalso; omega) | contradiction | conv => whnf)
    | (refine br_not ?_; conv => whnf)
    | (refine br_bne (fun _ => ?_) (fun _ => ?_) <;> first | (exfalso; omega) | contradiction | conv => whnf)
    | (refine br_beq (fun _ => ?_) (fun _ => ?_) <;> first | (exfalso; omega) | contradiction | conv => whnf))
  refine Hand.mk [] ?_
  try (conv => whnf)
  refine CallW.d (l_toMulti s l (by omega) (by omega)) ?_
  try (conv => whnf)
  refine Hand.mk [] ?_
  try (conv => whnf)
  repeat (refine Pick.mk ?_ ?_ ?_; rotate_left; (focus ((refine SlOf.full ?_; first | (simp; done) | (simp; omega)))); conv => whnf)
  refine CallW.d (c1) ?_
  try (conv => whnf)
  refine Hand.mk [] ?_
  try (conv => whnf)
  refine CallW.d (l_toMulti s l (by omega) (by omega)) ?_
  try (conv => whnf)
  refine Hand.mk [] ?_
  try (conv => whnf)
  repeat (refine Pick.mk ?_ ?_ ?_; rotate_left; (focus ((refine SlOf.full ?_; first | (simp; done) | (simp; omega)))); conv => whnf)
  refine CallW.d (c2) ?_
  try (conv => whnf)
  refine Hand.mk [] ?_
  try (conv => whnf)
  repeat (refine Pick.mk ?_ ?_ ?_; rotate_left; (focus ((refine SlOf.full ?_; first | (simp; done) | (simp; omega)))); conv => whnf)
  refine CallW.d (l_eqMulti S E (by omega) (by omega) b3) ?_
  try (conv => whnf)
  try (conv => whnf)
  repeat' (first
    | (refine br_dec (fun _ => ?_) (fun _ => ?_) <;> first | (exfalso; omega) | contradiction | conv => whnf)
    | (refine br_not ?_; conv => whnf)
    | (refine br_bne (fun _ => ?_) (fun _ => ?_) <;> first | (exfalso; omega) | contradiction | conv => whnf)
    | (refine br_beq (fun _ => ?_) (fun _ => ?_) <;> first | (exfalso; omega) | contradiction | conv => whnf))
  refine Hand.mk [] ?_
  try (conv => whnf)
  refine CallW.d (l_toMulti s l (by omega) (by omega)) ?_
  try (conv => whnf)
  repeat (refine Need.mk ?_ ?_; (focus (((conv => whnf); (repeat (refine Need.mk (by first | rfl | omega | (simp; done)) ?_; conv => whnf)); exact Done.mk trivial))); conv => whnf)
  refine Hand.mk [] ?_
  try (conv => whnf)
  repeat (refine Pick.mk ?_ ?_ ?_; rotate_left; (focus ((refine SlOf.full ?_; first | (simp; done) | (simp; omega)))); conv => whnf)
  refine CallW.d (l_eqMulti s l (by omega) (by omega) (fun e he => by have := eTot_mem he; omega)) ?_
  try (conv => whnf)
  try (conv => whnf)
  repeat' (first
    | (refine br_dec (fun _ => ?_) (fun _ => ?_) <;> first | (exfalso; omega) | contradiction | conv => whnf)
    | (refine br_not ?_; conv => whnf)
    | (refine br_bne (fun _ => ?_) (fun _ => ?_) <;> first | (exfalso; omega) | contradiction | conv => whnf)
    | (refine br_beq (fun _ => ?_) (fun _ => ?_) <;> first | (exfalso; omega) | contradiction | conv => whnf))
  refine Hand.mk [0, 1] ?_
  try (conv => whnf)
  refine CallW.m (l_markMulti s l _ (by omega) (by omega) (by omega) (by omega)) ?_
  try (conv => whnf)
  refine Hand.mk [] ?_
  try (conv => whnf)
  repeat (refine Pick.mk ?_ ?_ ?_; rotate_left; (focus ((refine SlOf.full ?_; first | (simp; done) | (simp; omega)))); conv => whnf)
  refine CallW.d (l_eqMulti S E (by omega) (by omega) b3) ?_
  try (conv => whnf)
  try (conv => whnf)
  repeat' (first
    | (refine br_dec (fun _ => ?_) (fun _ => ?_) <;> first | (exfalso; omega) | contradiction | conv => whnf)
    | (refine br_not ?_; conv => whnf)
    | (refine br_bne (fun _ => ?_) (fun _ => ?_) <;> first | (exfalso; omega) | contradiction | conv => whnf)
    | (refine br_beq (fun _ => ?_) (fun _ => ?_) <;> first | (exfalso; omega) | contradiction | conv => whnf))
  refine Hand.mk [0, 1] ?_
  try (conv => whnf)
  refine CallW.m (l_markMulti S E _ (by omega) (by omega) (by omega) (by omega)) ?_
  try (conv => whnf)
  refine Hand.mk [] ?_
  try (conv => whnf)
  repeat (refine Pick.mk ?_ ?_ ?_; rotate_left; (focus ((refine SlOf.full ?_; first | (simp; done) | (simp; omega)))); conv => whnf)
  refine CallW.d (l_heldMulti S.length E.length _ (by omega) (by omega) (by omega) (by omega)) ?_
  try (conv => whnf)
  try (conv => whnf)
  repeat' (first
    | (refine br_dec (fun _ => ?_) (fun _ => ?_) <;> first | (exfalso; omega) | contradiction | conv => whnf)
    | (refine br_not ?_; conv => whnf)
    | (refine br_bne (fun _ => ?_) (fun _ => ?_) <;> first | (exfalso; omega) | contradiction | conv => whnf)
    | (refine br_beq (fun _ => ?_) (fun _ => ?_) <;> first | (exfalso; omega) | contradiction | conv => whnf))
  refine Hand.mk [] ?_
  try (conv => whnf)
  refine CallW.d (l_toMulti s l (by omega) (by omega)) ?_
  try (conv => whnf)
  refine Hand.mk [] ?_
  try (conv => whnf)
  repeat (refine Pick.mk ?_ ?_ ?_; rotate_left; (focus ((refine SlOf.full ?_; first | (simp; done) | (simp; omega)))); conv => whnf)
  refine CallW.d (c2) ?_
  try (conv => whnf)
  refine Hand.mk [] ?_
  try (conv => whnf)
  repeat (refine Pick.mk ?_ ?_ ?_; rotate_left; (focus ((refine SlOf.full ?_; first | (simp; done) | (simp; omega)))); conv => whnf)
  refine CallW.d (l_eqMulti S E (by omega) (by omega) b3) ?_
  try (conv => whnf)
  try (conv => whnf)
  repeat' (first
    | (refine br_dec (fun _ => ?_) (fun _ => ?_) <;> first | (exfalso; omega) | contradiction | conv => whnf)
    | (refine br_not ?_; conv => whnf)
    | (refine br_bne (fun _ => ?_) (fun _ => ?_) <;> first | (exfalso; omega) | contradiction | conv => whnf)
    | (refine br_beq (fun _ => ?_) (fun _ => ?_) <;> first | (exfalso; omega) | contradiction | conv => whnf))
  refine Hand.mk [] ?_
  try (conv => whnf)
  repeat (refine Pick.mk ?_ ?_ ?_; rotate_left; (focus ((refine SlOf.full ?_; first | (simp; done) | (simp; omega)))); conv => whnf)
  refine CallW.d (l_heldMulti S.length E.length _ (by omega) (by omega) (by omega) (by omega)) ?_
  try (conv => whnf)
  try (conv => whnf)
  repeat' (first
    | (refine br_dec (fun _ => ?_) (fun _ => ?_) <;> first | (exfalso; omega) | contradiction | conv => whnf)
    | (refine br_not ?_; conv => whnf)
    | (refine br_bne (fun _ => ?_) (fun _ => ?_) <;> first | (exfalso; omega) | contradiction | conv => whnf)
    | (refine br_beq (fun _ => ?_) (fun _ => ?_) <;> first | (exfalso; omega) | contradiction | conv => whnf))
  refine Out.mk true [] [] ?_
  try (conv => whnf)
  exact ⟨rfl, rfl⟩
end Go.Proofs.Ytoklfidamhigcaa.D
