/- Texts opened: what the reference's and the program's functions give back. -/
import Derived.Test.YtoklfidamhigcaaSeal
namespace Go.Proofs.Ytoklfidamhigcaa.D
open Go.RowKit
set_option maxRecDepth 100000
set_option linter.unusedVariables false
set_option linter.unusedSimpArgs false

abbrev body (s : List UInt8) : List UInt8 := s.take (s.length - 8)
/-- The code of opening. -/
def openC (key : List UInt8) (n : Int) (s : List UInt8) : Int :=
  if key.length > 1048576 ∨ s.length > 1048576 then 2 else if key.length ≠ 8 ∨ n < 0 ∨ n > 1000000000000 then 4 else if s.length < 8 ∨ s.length > 208 then 3
  else if ksum key (eight n ++ body s) ≠ s.drop (s.length - 8) then 10 else 0
def openT (key : List UInt8) (n : Int) (s : List UInt8) : List UInt8 := if openC key n s = 0 then mask key n (body s) else []
section
variable {key : List UInt8} {n : Int} {s : List UInt8}
theorem openC_2 (h : key.length > 1048576 ∨ s.length > 1048576) : openC key n s = 2 := if_pos h
theorem openC_4 (h : ¬ (key.length > 1048576 ∨ s.length > 1048576)) (h2 : key.length ≠ 8 ∨ n < 0 ∨ n > 1000000000000) : openC key n s = 4 := by rw [openC, if_neg h, if_pos h2]
theorem openC_3 (h : ¬ (key.length > 1048576 ∨ s.length > 1048576)) (h2 : ¬ (key.length ≠ 8 ∨ n < 0 ∨ n > 1000000000000)) (h3 : s.length < 8 ∨ s.length > 208) : openC key n s = 3 := by rw [openC, if_neg h, if_neg h2, if_pos h3]
theorem openC_10 (h : ¬ (key.length > 1048576 ∨ s.length > 1048576)) (h2 : ¬ (key.length ≠ 8 ∨ n < 0 ∨ n > 1000000000000)) (h3 : ¬ (s.length < 8 ∨ s.length > 208)) (h4 : ksum key (eight n ++ body s) ≠ s.drop (s.length - 8)) : openC key n s = 10 := by rw [openC, if_neg h, if_neg h2, if_neg h3, if_pos h4]
theorem openC_0 (h : ¬ (key.length > 1048576 ∨ s.length > 1048576)) (h2 : ¬ (key.length ≠ 8 ∨ n < 0 ∨ n > 1000000000000)) (h3 : ¬ (s.length < 8 ∨ s.length > 208)) (h4 : ksum key (eight n ++ body s) = s.drop (s.length - 8)) : openC key n s = 0 := by rw [openC, if_neg h, if_neg h2, if_neg h3, if_neg (by simp [h4])]
end
theorem s_OpenText (key : List UInt8) (n : Int) (s : List UInt8) (hk : key.length ≤ 2 ^ 40) (hs : s.length ≤ 2 ^ 40) :
    CallD Try.prog id_spec_OpenText [vY key, vI .i64 n, vY s] [] (.tup [(false, [cS (bs (openT key n s))]), (false, [cI (openC key n s)])]) [] := by
  refine F_spec_OpenText ?_
  try (conv => whnf)
  repeat' (first
    | (refine Need.mk ?_ ?_; (focus ((simp; done))); conv => whnf)
    | (refine Pick.mk ?_ ?_ ?_; rotate_left; (focus (first | with_reducible exact sl_map0 _ _ _ | (refine bnd_sub ?_ ?_ <;> omega) | exact List.length_map _ | (refine wid ?_ ?_ <;> omega))); conv => whnf)
    | (refine br_dec (fun _ => ?_) (fun _ => ?_) <;> first | (exfalso; omega) | contradiction | conv => whnf)
    | (refine br_not ?_; conv => whnf)
    | (refine br_bne (fun _ => ?_) (fun _ => ?_) <;> first | (exfalso; omega) | contradiction | conv => whnf)
    | (refine br_beq (fun _ => ?_) (fun _ => ?_) <;> first | (exfalso; omega) | contradiction | conv => whnf))
  rotate_right 2
  · have hb0 : (s.length : Int) - 8 = ((s.length - 8 : Nat) : Int) ∧ s.length - 8 ≤ s.length := ⟨by omega, by omega⟩
    have hb1 : ((List.take (s.length - 8) s).length : Int) = ((s.length - 8 : Nat) : Int) ∧ s.length - 8 ≤ s.length := ⟨by simp, by omega⟩
    try (conv => whnf)
    repeat (refine Pick.mk ?_ ?_ ?_; rotate_left; (focus (first | assumption | with_reducible exact sl_mapN _ _ _ | ((fail_if_success (show @Eq (Option _) _ _)); rfl))); conv => whnf)
    refine Hand.mk [] ?_
    try (conv => whnf)
    refine CallW.d (s_l16Eight _ (by omega) (by omega)) ?_
    try (conv => whnf)
    repeat (first
      | (refine Need.mk ?_ ?_; (focus (first | omega | (simp; done) | exact len_by _)); conv => whnf)
      | (refine Pick.mk ?_ ?_ ?_; rotate_left; (focus (first | assumption | with_reducible exact sl_mapN _ _ _ | exact List.length_map _ | (simp only [List.length_map, List.length_append, List.length_cons, List.length_nil, List.length_replicate, Nat.zero_add]; rfl) | (refine SlOf.full ?_; first | (simp; done) | (simp; omega)) | ((fail_if_success (show @Eq (Option _) _ _)); rfl))); conv => whnf))
    refine Hand.mk [] ?_
    try (conv => whnf)
    repeat (refine Pick.mk ?_ ?_ ?_; rotate_left; (focus ((refine SlOf.full ?_; first | (simp; done) | (simp; omega)))); conv => whnf)
    refine CallW.d (s_l16Sum key (eight n ++ body s) (by omega) (by omega) (by simp; omega)) ?_
    try (conv => whnf)
    repeat (first
      | (refine Need.mk ?_ ?_; (focus ((simp; done))); conv => whnf)
      | (refine Pick.mk ?_ ?_ ?_; rotate_left; (focus (first | assumption | exact bs_beq _ _ | with_reducible exact sl_mapN _ _ _ | exact List.length_map _ | (refine SlOf.full ?_; first | (simp; done) | (simp; omega)) | ((fail_if_success (show @Eq (Option _) _ _)); rfl))); conv => whnf))
    refine br_not (br_dec (fun h9 => ?_) (fun h9 => ?_))
    · have c0 : openC key n s = 0 := openC_0 (by omega) (by omega) (by omega) h9
      try (conv => whnf)
      refine Hand.mk [] ?_
      try (conv => whnf)
      refine CallW.d (s_l16Mask key n (body s) (by omega) (by omega) (by omega) (by omega) (by simp; omega)) ?_
      try (conv => whnf)
      repeat (refine Pick.mk ?_ ?_ ?_; rotate_left; (focus ((refine SlOf.full ?_; first | (simp; done) | (simp; omega)))); conv => whnf)
      refine Out.mk true [] [] ?_
      try (conv => whnf)
      rw [openT, if_pos c0, c0]
      exact ⟨rfl, rfl⟩
    · have c0 : openC key n s = 10 := openC_10 (by omega) (by omega) (by omega) h9
      try (conv => whnf)
      refine Out.mk true [] [] ?_
      try (conv => whnf)
      rw [openT, if_neg (by omega), c0]
      exact ⟨rfl, rfl⟩
  all_goals
    refine Out.mk true [] [] ?_
    try (conv => whnf)
  all_goals first
    | (have c2 : openC key n s = 2 := openC_2 (by omega)
       rw [openT, if_neg (by omega), c2]; exact ⟨rfl, rfl⟩)
    | (have c2 : openC key n s = 4 := openC_4 (by omega) (by omega)
       rw [openT, if_neg (by omega), c2]; exact ⟨rfl, rfl⟩)
    | (have c2 : openC key n s = 3 := openC_3 (by omega) (by omega) (by omega)
       rw [openT, if_neg (by omega), c2]; exact ⟨rfl, rfl⟩)
theorem i_OpenText (key : List UInt8) (n : Int) (s : List UInt8) (hk : key.length ≤ 2 ^ 40) (hs : s.length ≤ 2 ^ 40) :
    CallD Try.prog id_impl_OpenText [vY key, vI .i64 n, vY s] [] (.tup [(false, [cS (bs (openT key n s))]), (false, [cI (openC key n s)])]) [] := by
  refine F_impl_OpenText ?_
  try (conv => whnf)
  repeat' (first
    | (refine Need.mk ?_ ?_; (focus ((simp; done))); conv => whnf)
    | (refine Pick.mk ?_ ?_ ?_; rotate_left; (focus (first | with_reducible exact sl_map0 _ _ _ | (refine bnd_sub ?_ ?_ <;> omega) | exact List.length_map _ | (refine wid ?_ ?_ <;> omega))); conv => whnf)
    | (refine br_dec (fun _ => ?_) (fun _ => ?_) <;> first | (exfalso; omega) | contradiction | conv => whnf)
    | (refine br_not ?_; conv => whnf)
    | (refine br_bne (fun _ => ?_) (fun _ => ?_) <;> first | (exfalso; omega) | contradiction | conv => whnf)
    | (refine br_beq (fun _ => ?_) (fun _ => ?_) <;> first | (exfalso; omega) | contradiction | conv => whnf))
  rotate_right 2
  · have hb0 : (s.length : Int) - 8 = ((s.length - 8 : Nat) : Int) ∧ s.length - 8 ≤ s.length := ⟨by omega, by omega⟩
    have hb1 : ((List.take (s.length - 8) s).length : Int) = ((s.length - 8 : Nat) : Int) ∧ s.length - 8 ≤ s.length := ⟨by simp, by omega⟩
    try (conv => whnf)
    repeat (refine Pick.mk ?_ ?_ ?_; rotate_left; (focus (first | assumption | with_reducible exact sl_mapN _ _ _ | ((fail_if_success (show @Eq (Option _) _ _)); rfl))); conv => whnf)
    refine Hand.mk [] ?_
    try (conv => whnf)
    refine CallW.d (i_sealTag key n (body s) (by omega) (by omega) (by simp; omega) (by omega) (by omega)) ?_
    try (conv => whnf)
    repeat (first
      | (refine Need.mk ?_ ?_; (focus ((simp; done))); conv => whnf)
      | (refine Pick.mk ?_ ?_ ?_; rotate_left; (focus (first | assumption | exact bs_beq _ _ | with_reducible exact sl_mapN _ _ _ | exact List.length_map _ | (refine SlOf.full ?_; first | (simp; done) | (simp; omega)) | ((fail_if_success (show @Eq (Option _) _ _)); rfl))); conv => whnf))
    refine br_not (br_dec (fun h9 => ?_) (fun h9 => ?_))
    · have c0 : openC key n s = 0 := openC_0 (by omega) (by omega) (by omega) h9
      try (conv => whnf)
      repeat (refine Pick.mk ?_ ?_ ?_; rotate_left; (focus ((simp only [List.length_map, List.length_append, List.length_cons, List.length_nil, List.length_replicate, Nat.zero_add]; rfl))); conv => whnf)
      refine Hand.mk [] ?_
      try (conv => whnf)
      refine CallW.d (i_xorStream key n (body s) (by omega) (by omega) (by simp; omega) (by omega) (by omega)) ?_
      try (conv => whnf)
      repeat (refine Pick.mk ?_ ?_ ?_; rotate_left; (focus ((refine SlOf.full ?_; first | (simp; done) | (simp; omega)))); conv => whnf)
      refine Out.mk true [] [] ?_
      try (conv => whnf)
      rw [openT, if_pos c0, c0]
      exact ⟨rfl, rfl⟩
    · have c0 : openC key n s = 10 := openC_10 (by omega) (by omega) (by omega) h9
      try (conv => whnf)
      refine Out.mk true [] [] ?_
      try (conv => whnf)
      rw [openT, if_neg (by omega), c0]
      exact ⟨rfl, rfl⟩
  all_goals
    refine Out.mk true [] [] ?_
    try (conv => whnf)
  all_goals first
    | (have c2 : openC key n s = 2 := openC_2 (by omega)
       rw [openT, if_neg (by omega), c2]; exact ⟨rfl, rfl⟩)
    | (have c2 : openC key n s = 4 := openC_4 (by omega) (by omega)
       rw [openT, if_neg (by omega), c2]; exact ⟨rfl, rfl⟩)
    | (have c2 : openC key n s = 3 := openC_3 (by omega) (by omega) (by omega)
       rw [openT, if_neg (by omega), c2]; exact ⟨rfl, rfl⟩)
end Go.Proofs.Ytoklfidamhigcaa.D
