/- Drawn texts, sealed and opened. -/
import Derived.Test.YtoklfidamhigcaaSrc
import Derived.Test.YtoklfidamhigcaaAt
import Derived.Test.YtoklfidamhigcaaOpen
namespace Go.Proofs.Ytoklfidamhigcaa.D
open Go.RowKit
set_option maxRecDepth 100000
set_option linter.unusedVariables false
set_option linter.unusedSimpArgs false
/-- What is drawn for a sealing. -/
def DrawnSeal : SV → List Row → Prop := fun r Lo => ∃ (key : List UInt8) (n : Int) (t : List UInt8), Lo = [.own 1 (key.map byD)] ∧ r = .tup [(false, [.os 0 1 0 key.length]), (false, [cI n]), (false, [cS (bs t)])] ∧ key.length ≤ 10 ∧ t.length ≤ 300
theorem s_l16Draw (code : List UInt8) (hc : code.length ≤ 2 ^ 40) :
    CallM Try.prog id_spec_l16Draw [vY code] [] [] false DrawnSeal := by
  refine F_spec_l16Draw ?_
  try (conv => whnf)
  refine Hand.mk [] ?_
  try (conv => whnf)
  refine CallW.n (s_l01Source code hc) ?_
  rintro _ _ ⟨s, rfl, rfl, hS⟩
  try (conv => whnf)
  refine Hand.mk [] ?_
  try (conv => whnf)
  refine CallW.n (s_bytes hS 8 (by omega) (by omega)) ?_
  rintro _ _ ⟨a1, s1, _, rfl, hS1, v1, rfl, rfl, hv1⟩
  try (conv => whnf)
  refine Hand.mk [] ?_
  try (conv => whnf)
  refine CallW.n (s_next hS1 (by omega) 1000 (by omega)) ?_
  rintro _ _ ⟨a2, s2, _, rfl, hS2, v2, rfl, rfl, hv2⟩
  try (conv => whnf)
  refine Hand.mk [] ?_
  try (conv => whnf)
  refine CallW.n (s_word hS2 (by omega)) ?_
  rintro _ _ ⟨a3, s3, _, rfl, hS3, v3, rfl, rfl, hv3⟩
  try (conv => whnf)
  refine Hand.mk [] ?_
  try (conv => whnf)
  refine CallW.n (s_word hS3 (by omega)) ?_
  rintro _ _ ⟨a4, s4, _, rfl, hS4, v4, rfl, rfl, hv4⟩
  try (conv => whnf)
  repeat (first
    | (refine Need.mk ?_ ?_; (focus ((simp; omega))); conv => whnf)
    | (refine Pick.mk ?_ ?_ ?_; rotate_left; (focus (with_reducible exact bs_app _ _)); conv => whnf))
  refine Hand.mk [] ?_
  try (conv => whnf)
  refine CallW.n (s_word hS4 (by omega)) ?_
  rintro _ _ ⟨a5, s5, _, rfl, hS5, v5, rfl, rfl, hv5⟩
  try (conv => whnf)
  repeat (first
    | (refine Need.mk ?_ ?_; (focus ((simp; omega))); conv => whnf)
    | (refine Pick.mk ?_ ?_ ?_; rotate_left; (focus (with_reducible exact bs_app _ _)); conv => whnf))
  refine Hand.mk [] ?_
  try (conv => whnf)
  refine CallW.n (s_next hS5 (by omega) 12 (by omega)) ?_
  rintro _ _ ⟨a6, s6, _, rfl, hS6, v6, rfl, rfl, hv6⟩
  try (conv => whnf)
  try (conv => whnf)
  repeat' (first
    | (refine Pick.mk ?_ ?_ ?_; rotate_left; (focus ((simp only [chunks]; rfl))); conv => whnf)
    | (refine br_dec (fun _ => ?_) (fun _ => ?_) <;> first | (exfalso; omega) | contradiction | conv => whnf)
    | (refine br_not ?_; conv => whnf)
    | (refine br_bne (fun _ => ?_) (fun _ => ?_) <;> first | (exfalso; omega) | contradiction | conv => whnf)
    | (refine br_beq (fun _ => ?_) (fun _ => ?_) <;> first | (exfalso; omega) | contradiction | conv => whnf))
  · refine Hand.mk [] ?_
    try (conv => whnf)
    refine CallW.n (s_next hS6 (by omega) 10 (by omega)) ?_
    rintro _ _ ⟨a7, s7, _, rfl, hS7, v7, rfl, rfl, hv7⟩
    try (conv => whnf)
    obtain ⟨m, rfl⟩ : ∃ m : Nat, v7 = m := ⟨v7.toNat, by omega⟩
    refine Hand.mk [] ?_
    try (conv => whnf)
    refine CallW.n (s_bytes hS7 m (by omega) (by omega)) ?_
    rintro _ _ ⟨a8, s8, _, rfl, hS8, v8, rfl, rfl, hv8⟩
    try (conv => whnf)
    refine Out.mk false [0, 1, 2, 3, 4] [] ?_
    try (conv => whnf)
    exact ⟨_, _, _, rfl, rfl, by omega, by simp; omega⟩
  · refine Hand.mk [] ?_
    try (conv => whnf)
    refine CallW.n (s_next hS6 (by omega) 3 (by omega)) ?_
    rintro _ _ ⟨a7, s7, _, rfl, hS7, v7, rfl, rfl, hv7⟩
    try (conv => whnf)
    repeat (refine Need.mk ?_ ?_; (focus (omega)); conv => whnf)
    refine pickI (fun _ => true) rfl (by rw [addN_eq]; show _ < 3; omega) fun x _ => ?_
    refine Out.mk false [0, 1, 2, 3, 4] [] ?_
    try (conv => whnf)
    exact ⟨_, _, _, rfl, rfl, by omega, by simp; omega⟩
  · refine Hand.mk [] ?_
    try (conv => whnf)
    refine CallW.n (s_next hS6 (by omega) 2 (by omega)) ?_
    rintro _ _ ⟨a7, s7, _, rfl, hS7, v7, rfl, rfl, hv7⟩
    try (conv => whnf)
    repeat (first
      | (refine Need.mk ?_ ?_; (focus (omega)); conv => whnf)
      | (refine Pick.mk ?_ ?_ ?_; rotate_left; (focus ((refine wid ?_ ?_ <;> omega))); conv => whnf))
    refine Pick.mk (200 + v7.toNat) (by omega) ?_
    try (conv => whnf)
    repeat (refine Pick.mk ?_ ?_ ?_; rotate_left; (focus (first | exact rep_by _ | (refine SlOf.full ?_; first | (simp; done) | (simp; omega)))); conv => whnf)
    refine Out.mk false [0, 1, 2, 3, 4] [] ?_
    try (conv => whnf)
    exact ⟨_, _, List.replicate (200 + v7.toNat) 0, rfl, rfl, by omega, by simp; omega⟩
  · refine Out.mk false [0, 1, 2, 3, 4] [] ?_
    try (conv => whnf)
    exact ⟨_, _, _, rfl, rfl, by omega, by simp; omega⟩
theorem s_DrawSealText (code : List UInt8) (hc : code.length ≤ 2 ^ 40) :
    CallM Try.prog id_spec_DrawSealText [vY code] [] [] false DrawnSeal := by
  refine F_spec_DrawSealText ?_
  try (conv => whnf)
  refine Hand.mk [] ?_
  try (conv => whnf)
  refine CallW.n (s_l16Draw code hc) ?_
  rintro _ _ ⟨key, n, t, rfl, rfl, hk, ht⟩
  try (conv => whnf)
  refine Out.mk false [0, 1, 2, 3, 4] [] ?_
  try (conv => whnf)
  exact ⟨_, _, _, rfl, rfl, hk, ht⟩
theorem xor_xor8 (a b : UInt8) : a ^^^ b ^^^ b = a := by rw [UInt8.xor_assoc, UInt8.xor_self, UInt8.xor_zero]
theorem mask_mask (key : List UInt8) (n : Int) (t : List UInt8) : mask key n (mask key n t) = t := by
  apply List.ext_getElem (by simp)
  intro i h1 h2
  simp only [mask, List.getElem_mapIdx, xor_xor8]
theorem sealC_inv {key : List UInt8} {n : Int} {t : List UInt8} (h : sealC key n t = 0) : key.length = 8 ∧ 0 ≤ n ∧ n ≤ 1000000000000 ∧ t.length ≤ 200 := by
  rw [sealC] at h
  split at h
  · omega
  · split at h
    · omega
    · omega
theorem ksum_len (key l : List UInt8) : (ksum key l).length = 8 := by simp
theorem seal_body {key : List UInt8} {n : Int} {t : List UInt8} (h : sealC key n t = 0) : body (sealB key n t) = mask key n t := by
  rw [body, sealB, if_pos h]
  simp
theorem seal_tail {key : List UInt8} {n : Int} {t : List UInt8} (h : sealC key n t = 0) : (sealB key n t).drop ((sealB key n t).length - 8) = ksum key (eight n ++ mask key n t) := by
  rw [sealB, if_pos h]
  simp
theorem seal_len {key : List UInt8} {n : Int} {t : List UInt8} (h : sealC key n t = 0) : (sealB key n t).length = t.length + 8 := by
  rw [sealB, if_pos h]
  simp
theorem seal_back {key : List UInt8} {n : Int} {t : List UInt8} (h : sealC key n t = 0) : openC key n (sealB key n t) = 0 := by
  obtain ⟨h1, h2, h3, h4⟩ := sealC_inv h
  have := seal_len h
  exact openC_0 (by omega) (by omega) (by omega) (by rw [seal_body h, seal_tail h])
theorem seal_open {key : List UInt8} {n : Int} {t : List UInt8} (h : sealC key n t = 0) : openT key n (sealB key n t) = t := by
  rw [openT, if_pos (seal_back h), seal_body h, mask_mask]
theorem law_Sealed (code more : List UInt8) (hc : code.length ≤ 2 ^ 47) (hm : more.length ≤ 2 ^ 47) :
    CallD Try.prog id_laws_FnSealed [vY code, vY more] [] (vB true) [] := by
  refine F_laws_FnSealed ?_
  try (conv => whnf)
  repeat' (first
    | (refine Pick.mk ?_ ?_ ?_; rotate_left; (focus (exact List.length_map _)); conv => whnf)
    | (refine br_dec (fun _ => ?_) (fun _ => ?_) <;> first | (exfalso; omega) | contradiction | conv => whnf)
    | (refine br_not ?_; conv => whnf)
    | (refine br_bne (fun _ => ?_) (fun _ => ?_) <;> first | (exfalso; omega) | contradiction | conv => whnf)
    | (refine br_beq (fun _ => ?_) (fun _ => ?_) <;> first | (exfalso; omega) | contradiction | conv => whnf))
  · refine Out.mk true [] [] ?_
    try (conv => whnf)
    exact ⟨rfl, rfl⟩
  · refine Out.mk true [] [] ?_
    try (conv => whnf)
    exact ⟨rfl, rfl⟩
  · refine Hand.mk [] ?_
    try (conv => whnf)
    refine CallW.n (s_DrawSealText code (by omega)) ?_
    rintro _ _ ⟨key, n, t, rfl, rfl, hk, ht⟩
    try (conv => whnf)
    have hB : (sealB key n t).length ≤ 2 ^ 30 := by rw [sealB]; split <;> simp; rename_i h; rw [sealC] at h; omega
    refine Hand.mk [] ?_
    try (conv => whnf)
    repeat (refine Pick.mk ?_ ?_ ?_; rotate_left; (focus ((refine SlOf.full ?_; first | (simp; done) | (simp; omega)))); conv => whnf)
    refine CallW.d (s_SealText key n t (by omega) (by omega)) ?_
    try (conv => whnf)
    refine Hand.mk [] ?_
    try (conv => whnf)
    repeat (refine Pick.mk ?_ ?_ ?_; rotate_left; (focus ((refine SlOf.full ?_; first | (simp; done) | (simp; omega)))); conv => whnf)
    refine CallW.d (i_SealText key n t (by omega) (by omega)) ?_
    try (conv => whnf)
    try (conv => whnf)
    repeat' (first
      | (refine Need.mk ?_ ?_; (focus (omega)); conv => whnf)
      | (refine Pick.mk ?_ ?_ ?_; rotate_left; (focus (first | exact bs_beq _ _ | (simp only [List.length_map, List.length_append, List.length_cons, List.length_nil, List.length_replicate, Nat.zero_add]; rfl) | with_reducible exact List.nil_append _ | (simp only [chunks]; rfl) | (refine SlOf.full ?_; first | (simp; done) | (simp; omega)))); conv => whnf)
      | (refine br_dec (fun _ => ?_) (fun _ => ?_) <;> first | (exfalso; omega) | contradiction | conv => whnf)
      | (refine br_not ?_; conv => whnf)
      | (refine br_bne (fun _ => ?_) (fun _ => ?_) <;> first | (exfalso; omega) | contradiction | conv => whnf)
      | (refine br_beq (fun _ => ?_) (fun _ => ?_) <;> first | (exfalso; omega) | contradiction | conv => whnf))
    · rename_i c0
      obtain ⟨q1, q2, q3, q4⟩ := sealC_inv c0
      have q5 := seal_len c0
      have q6 := seal_back c0
      have q7 := seal_open c0
      refine Hand.mk [] ?_
      try (conv => whnf)
      repeat (refine Pick.mk ?_ ?_ ?_; rotate_left; (focus ((refine SlOf.full ?_; first | (simp; done) | (simp; omega)))); conv => whnf)
      refine CallW.d (i_OpenText key n (sealB key n t) (by omega) (by omega)) ?_
      try (conv => whnf)
      rw [q6, q7]
      try (conv => whnf)
      repeat' (first
        | (refine Need.mk ?_ ?_; (focus (omega)); conv => whnf)
        | (refine Pick.mk ?_ ?_ ?_; rotate_left; (focus (first | exact bs_beq _ _ | exact size_bs _ | (simp only [List.length_map, List.length_append, List.length_cons, List.length_nil, List.length_replicate, Nat.zero_add]; rfl) | with_reducible exact List.nil_append _ | (simp only [chunks]; rfl) | (refine wid ?_ ?_ <;> omega) | (refine SlOf.full ?_; first | (simp; done) | (simp; omega)))); conv => whnf)
        | (refine br_dec (fun _ => ?_) (fun _ => ?_) <;> first | (exfalso; omega) | contradiction | conv => whnf)
        | (refine br_not ?_; conv => whnf)
        | (refine br_bne (fun _ => ?_) (fun _ => ?_) <;> first | (exfalso; omega) | contradiction | conv => whnf)
        | (refine br_beq (fun _ => ?_) (fun _ => ?_) <;> first | (exfalso; omega) | contradiction | conv => whnf))
      refine Hand.mk [] ?_
      try (conv => whnf)
      refine CallW.n (l_at more 0 _ (by omega) (by omega) (by omega) (by omega)) ?_
      rintro _ _ ⟨k, rfl, rfl, hk0, hk1⟩
      try (conv => whnf)
      repeat (first
        | (refine Need.mk ?_ ?_; (focus (omega)); conv => whnf)
        | (refine Pick.mk ?_ ?_ ?_; rotate_left; (focus ((with_reducible refine get_mapI _ _ _ ?_ ?_ <;> first | omega | (simp; omega)))); conv => whnf))
      refine Hand.mk [] ?_
      try (conv => whnf)
      refine CallW.n (l_at more 1 255 (by omega) (by omega) (by omega) (by omega)) ?_
      rintro _ _ ⟨k1, rfl, rfl, hk2, hk3⟩
      try (conv => whnf)
      repeat (first
        | (refine Need.mk ?_ ?_; (focus (first | omega | (simp; done))); conv => whnf)
        | (refine Pick.mk ?_ ?_ ?_; rotate_left; (focus (first | with_reducible exact xor_u8 _ _ | with_reducible exact set_byI _ _ _ _ | (with_reducible refine get_mapI _ _ _ ?_ ?_ <;> first | omega | (simp; omega)) | (refine wid ?_ ?_ <;> omega) | exact wbyte _)); conv => whnf))
      refine Hand.mk [] ?_
      try (conv => whnf)
      repeat (refine Pick.mk ?_ ?_ ?_; rotate_left; (focus ((refine SlOf.full ?_; first | (simp; done) | (simp; omega)))); conv => whnf)
      refine CallW.d (i_OpenText key n _ (by omega) (by simp; omega)) ?_
      try (conv => whnf)
      refine Hand.mk [] ?_
      try (conv => whnf)
      repeat (refine Pick.mk ?_ ?_ ?_; rotate_left; (focus ((refine SlOf.full ?_; first | (simp; done) | (simp; omega)))); conv => whnf)
      refine CallW.d (s_OpenText key n _ (by omega) (by simp; omega)) ?_
      try (conv => whnf)
      try (conv => whnf)
      repeat' (first
        | (refine Need.mk ?_ ?_; (focus (omega)); conv => whnf)
        | (refine Pick.mk ?_ ?_ ?_; rotate_left; (focus (first | (simp only [List.length_map, List.length_append, List.length_cons, List.length_nil, List.length_replicate, Nat.zero_add]; rfl) | with_reducible exact List.nil_append _ | (simp only [chunks]; rfl) | (refine SlOf.full ?_; first | (simp; done) | (simp; omega)))); conv => whnf)
        | (refine br_dec (fun _ => ?_) (fun _ => ?_) <;> first | (exfalso; omega) | contradiction | conv => whnf)
        | (refine br_not ?_; conv => whnf)
        | (refine br_bne (fun _ => ?_) (fun _ => ?_) <;> first | (exfalso; omega) | contradiction | conv => whnf)
        | (refine br_beq (fun _ => ?_) (fun _ => ?_) <;> first | (exfalso; omega) | contradiction | conv => whnf))
      refine Hand.mk [] ?_
      try (conv => whnf)
      refine CallW.n (l_at more 2 _ (by omega) (by omega) (by omega) (by omega)) ?_
      rintro _ _ ⟨k2, rfl, rfl, hk4, hk5⟩
      try (conv => whnf)
      repeat (first
        | (refine Need.mk ?_ ?_; (focus (omega)); conv => whnf)
        | (refine Pick.mk ?_ ?_ ?_; rotate_left; (focus (first | with_reducible exact set_byI _ _ _ _ | (with_reducible refine get_mapI _ _ _ ?_ ?_ <;> first | omega | (simp; omega)) | exact wbyte _)); conv => whnf))
      refine Hand.mk [] ?_
      try (conv => whnf)
      repeat (refine Pick.mk ?_ ?_ ?_; rotate_left; (focus ((refine SlOf.full ?_; first | (simp; done) | (simp; omega)))); conv => whnf)
      refine CallW.d (i_OpenText _ n (sealB key n t) (by simp; omega) (by omega)) ?_
      try (conv => whnf)
      refine Hand.mk [] ?_
      try (conv => whnf)
      repeat (refine Pick.mk ?_ ?_ ?_; rotate_left; (focus ((refine SlOf.full ?_; first | (simp; done) | (simp; omega)))); conv => whnf)
      refine CallW.d (s_OpenText _ n (sealB key n t) (by simp; omega) (by omega)) ?_
      try (conv => whnf)
      refine Out.mk true [] [] ?_
      try (conv => whnf)
      exact ⟨by simp, rfl⟩
    · refine Out.mk true [] [] ?_
      try (conv => whnf)
      exact ⟨rfl, rfl⟩
end Go.Proofs.Ytoklfidamhigcaa.D
