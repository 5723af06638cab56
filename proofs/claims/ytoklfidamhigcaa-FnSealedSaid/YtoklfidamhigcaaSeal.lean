/- Sealed texts: what the reference's and the program's functions give back. -/
import Derived.Test.YtoklfidamhigcaaSum2
namespace Go.Proofs.Ytoklfidamhigcaa.D
open Go.RowKit
set_option maxRecDepth 100000
set_option linter.unusedVariables false
set_option linter.unusedSimpArgs false

theorem i_KeySum (key b : List UInt8) (hk : 1 ≤ key.length) (hk2 : key.length ≤ 64) (hb : b.length ≤ 1000) :
    CallD Try.prog id_impl_KeySum [vY key, vY b] [] (.tup [(false, [.os 0 1 0 8]), (false, [cI 0])]) [.own 1 ((ksum key b).map byD)] := by
  refine F_impl_KeySum ?_
  try (conv => whnf)
  repeat' (first
    | (refine Pick.mk ?_ ?_ ?_; rotate_left; (focus (first | exact List.length_map _ | (refine wid ?_ ?_ <;> omega))); conv => whnf)
    | (refine br_dec (fun _ => ?_) (fun _ => ?_) <;> first | (exfalso; omega) | contradiction | conv => whnf)
    | (refine br_not ?_; conv => whnf)
    | (refine br_bne (fun _ => ?_) (fun _ => ?_) <;> first | (exfalso; omega) | contradiction | conv => whnf)
    | (refine br_beq (fun _ => ?_) (fun _ => ?_) <;> first | (exfalso; omega) | contradiction | conv => whnf))
  have l1 := sumH_lt (h := 2166136261) (by omega) key
  have l2 := sumH_lt l1 b
  have l3 := sumH_lt l2 key
  refine Hand.mk [] ?_
  try (conv => whnf)
  refine CallW.d (i_sumOn 2166136261 _ (by omega) (by omega)) ?_
  try (conv => whnf)
  refine Hand.mk [] ?_
  try (conv => whnf)
  refine CallW.d (i_sumOn _ _ l1 (by omega)) ?_
  try (conv => whnf)
  refine Hand.mk [] ?_
  try (conv => whnf)
  refine CallW.d (i_sumOn _ _ l2 (by omega)) ?_
  try (conv => whnf)
  repeat (refine Pick.mk ?_ ?_ ?_; rotate_left; (focus ((refine wid ?_ ?_ <;> omega))); conv => whnf)
  have l4 := sumH_lt (h := 2166136261) (by omega) (four (sumH (sumH (sumH 2166136261 key) b) key))
  have l5 := sumH_lt l4 key
  have l6 := sumH_lt l5 b
  refine Hand.mk [] ?_
  try (conv => whnf)
  refine CallW.d (i_append4_nil _ (by omega) (by omega)) ?_
  try (conv => whnf)
  refine Hand.mk [] ?_
  try (conv => whnf)
  repeat (refine Pick.mk ?_ ?_ ?_; rotate_left; (focus ((refine SlOf.full ?_; first | (simp; done) | (simp; omega)))); conv => whnf)
  refine CallW.d (i_sumOn 2166136261 _ (by omega) (by simp)) ?_
  try (conv => whnf)
  refine Hand.mk [] ?_
  try (conv => whnf)
  refine CallW.d (i_sumOn _ _ l4 (by omega)) ?_
  try (conv => whnf)
  refine Hand.mk [] ?_
  try (conv => whnf)
  refine CallW.d (i_sumOn _ _ l5 (by omega)) ?_
  try (conv => whnf)
  repeat (refine Pick.mk ?_ ?_ ?_; rotate_left; (focus ((refine wid ?_ ?_ <;> omega))); conv => whnf)
  refine Hand.mk [0] ?_
  try (conv => whnf)
  refine CallW.m (i_append4 _ _ _ (by simp) (by omega) (by omega) (by omega)) ?_
  try (conv => whnf)
  refine Out.mk false [0, 1, 2, 3, 4] [] ?_
  try (conv => whnf)
  repeat (refine Need.mk ?_ ?_; (focus ((first | exact flat_by _ | exact flat_in _ | exact flat_st _ | exact flat_ts _ | exact flat_bo _ | exact flat_cl rfl))); conv => whnf)
  exact ⟨rfl, by simp [ksum, sumH]⟩
theorem i_sealTag (key : List UInt8) (n : Int) (b : List UInt8) (hk : 1 ≤ key.length) (hk2 : key.length ≤ 64) (hb : b.length ≤ 900) (h0 : 0 ≤ n) (h1 : n ≤ 1000000000000) :
    CallD Try.prog id_impl_sealTag [vY key, vI .i64 n, vY b] [] (.one (.os 0 1 0 8)) [.own 1 ((ksum key (eight n ++ b)).map byD)] := by
  refine F_impl_sealTag ?_
  try (conv => whnf)
  refine Hand.mk [] ?_
  try (conv => whnf)
  refine CallW.d (i_append8_nil _ (by omega) (by omega)) ?_
  try (conv => whnf)
  repeat (first
    | (refine Need.mk ?_ ?_; (focus (first | omega | (simp; done))); conv => whnf)
    | (refine Pick.mk ?_ ?_ ?_; rotate_left; (focus (first | (simp only [List.length_map, List.length_append, List.length_cons, List.length_nil, List.length_replicate, Nat.zero_add]; rfl) | with_reducible exact map_app _ _ _ | (refine SlOf.full ?_; first | (simp; done) | (simp; omega)))); conv => whnf))
  refine Hand.mk [] ?_
  try (conv => whnf)
  repeat (refine Pick.mk ?_ ?_ ?_; rotate_left; (focus ((refine SlOf.full ?_; first | (simp; done) | (simp; omega)))); conv => whnf)
  refine CallW.d (i_KeySum _ _ (by omega) (by omega) (by simp; omega)) ?_
  try (conv => whnf)
  refine Out.mk false [0, 1, 2, 3, 4] [] ?_
  try (conv => whnf)
  repeat (refine Need.mk ?_ ?_; (focus ((first | exact flat_by _ | exact flat_in _ | exact flat_st _ | exact flat_ts _ | exact flat_bo _ | exact flat_cl rfl))); conv => whnf)
  exact ⟨rfl, rfl⟩
/-- What is xored up to a place, and what is not yet. -/
def cur (m t : List UInt8) (j : Nat) : List UInt8 := m.take j ++ t.drop j
theorem cur_length {m t : List UInt8} (h : m.length = t.length) (j : Nat) : (cur m t j).length = t.length := by simp [cur, h]; omega
theorem cur_get {m t : List UInt8} (h : m.length = t.length) {j : Nat} (hj : j < t.length) : (cur m t j)[j]? = some t[j] := by
  rw [cur, List.getElem?_append_right (by simp; omega)]
  simp [h, Nat.min_eq_left (Nat.le_of_lt hj), hj]
theorem cur_set {m t : List UInt8} (h : m.length = t.length) {j : Nat} (hj : j < t.length) : (cur m t j).set j (m[j]'(by omega)) = cur m t (j + 1) := by
  have h1 : (m.take j).length = j := by simp; omega
  rw [cur, List.set_append, if_neg (by omega), h1, Nat.sub_self, List.drop_eq_getElem_cons hj]
  simp only [List.set_cons_zero, cur]
  rw [List.take_succ_eq_append_getElem (show j < m.length by omega), List.append_assoc]; rfl
theorem cur_end {m t : List UInt8} (h : m.length = t.length) {j : Nat} (hj : t.length ≤ j) : cur m t j = m := by
  rw [cur, List.take_of_length_le (by omega), List.drop_eq_nil_of_le hj]; simp
theorem i_xorStream (key : List UInt8) (n : Int) (t : List UInt8) (hk : 1 ≤ key.length) (hk2 : key.length ≤ 64) (hb : t.length ≤ 900) (h0 : 0 ≤ n) (h1 : n ≤ 1000000000000) :
    CallD Try.prog id_impl_xorStream [vY key, vI .i64 n, vS (bs t)] [] (.one (.os 0 1 0 t.length)) [.own 1 ((mask key n t).map byD)] := by
  refine F_impl_xorStream ?_
  try (conv => whnf)
  have hm := mask_length key n t
  refine LoopE.mk (fun i : Nat => mk [(0, vY key), (1, vI .i64 n), (7, .one (.os 8208 1 0 t.length)), (8, vI .i64 (8 * i : Nat))] [(8208, .own 1 ((cur (mask key n t) t (8 * i)).map byD))])
    (fun i => 8 * i ≤ t.length + 7) (fun i => t.length + 7 - 8 * i) 0 (by omega) (LeX.of ?_) ?_
  · try (conv => whnf)
    repeat (refine Need.mk ?_ ?_; (focus (first | omega | (simp; done) | rfl)); conv => whnf)
    trivial
  · intro i hi
    try (conv => whnf)
    refine br_dec (fun h => ?_) (fun h => ?_)
    · try (conv => whnf)
      repeat (refine SeqJ.thru ?_; conv => whnf)
      refine Hand.mk [] ?_
      try (conv => whnf)
      refine CallW.d (i_append8_nil _ (by omega) (by omega)) ?_
      try (conv => whnf)
      repeat (first
        | (refine Need.mk ?_ ?_; (focus (omega)); conv => whnf)
        | (refine Pick.mk ?_ ?_ ?_; rotate_left; (focus ((refine wdiv ?_ ?_ ?_ <;> omega))); conv => whnf))
      have e8 : ((8 * i : Nat) : Int) / 8 = (i : Nat) := by omega
      rw [e8]
      refine Hand.mk [0] ?_
      try (conv => whnf)
      refine CallW.m (i_append8 (eight n) _ _ (by simp) (by omega) (by omega) (by omega)) ?_
      try (conv => whnf)
      refine Hand.mk [] ?_
      try (conv => whnf)
      repeat (refine Pick.mk ?_ ?_ ?_; rotate_left; (focus ((refine SlOf.full ?_; first | (simp; done) | (simp; omega)))); conv => whnf)
      refine CallW.d (i_KeySum _ _ (by omega) (by omega) (by simp)) ?_
      try (conv => whnf)
      refine LoopE.mk (fun j : Nat => mk [(0, vY key), (1, vI .i64 n), (7, .one (.os 8208 1 0 t.length)), (8, vI .i64 (8 * i : Nat)), (9, vY (blk key n i)), (11, vI .i64 j)] [(8208, .own 1 ((cur (mask key n t) t j).map byD))])
        (fun j => 8 * i ≤ j ∧ j ≤ 8 * i + 8 ∧ j ≤ t.length) (fun j => t.length - j) (8 * i) (by omega) (LeX.of ?_) ?_
      · try (conv => whnf)
        repeat (refine Need.mk ?_ ?_; (focus (first | omega | (simp; done))); conv => whnf)
        refine Need.mk (SlOf.full rfl) ?_
        try (conv => whnf)
        repeat (refine Need.mk ?_ ?_; (focus (first | omega | (simp; done))); conv => whnf)
        trivial
      · intro j hj
        try (conv => whnf)
        repeat' (first
          | (refine Need.mk ?_ ?_; (focus (omega)); conv => whnf)
          | (refine Pick.mk ?_ ?_ ?_; rotate_left; (focus ((refine wid ?_ ?_ <;> omega))); conv => whnf)
          | (refine SeqJ.thru ?_; conv => whnf)
          | (refine br_dec (fun _ => ?_) (fun _ => ?_) <;> first | (exfalso; omega) | contradiction | conv => whnf)
          | (refine br_not ?_; conv => whnf)
          | (refine br_bne (fun _ => ?_) (fun _ => ?_) <;> first | (exfalso; omega) | contradiction | conv => whnf)
          | (refine br_beq (fun _ => ?_) (fun _ => ?_) <;> first | (exfalso; omega) | contradiction | conv => whnf))
        · skip
          rename_i g1 g2
          have hjt : j < t.length := by omega
          have hg : (List.map byD (cur (mask key n t) t j))[addN 0 (j : Int).toNat]? = some (byD t[j]) := by
            rw [addN_eq, List.getElem?_map, show 0 + (j : Int).toNat = j by omega, cur_get hm hjt]; rfl
          try (conv => whnf)
          repeat (refine Pick.mk ?_ ?_ ?_; rotate_left; (focus (first | assumption | (refine wid ?_ ?_ <;> omega))); conv => whnf)
          refine Pick.mk _ (pick_by _ (m := j % 8) (by omega) (by simp [blk]; omega)) ?_
          try (conv => whnf)
          repeat (first
            | (refine Need.mk ?_ ?_; (focus (omega)); conv => whnf)
            | (refine Pick.mk ?_ ?_ ?_; rotate_left; (focus (first | with_reducible exact xor_u8 _ _ | assumption | with_reducible exact set_byN _ _ _ _ | (refine wid ?_ ?_ <;> omega))); conv => whnf))
          refine Pick.mk (j + 1) (by constructor <;> first | omega | (simp only []; omega)) (LeX.of ?_)
          try (conv => whnf)
          repeat (refine Need.mk ?_ ?_; (focus (first | omega | (simp; done))); conv => whnf)
          refine Need.mk ?_ ?_
          · have h5 : (mask key n t)[j]'(by omega) = t[j] ^^^ (blk key n i).getD (j % 8) 0 := by
              simp [mask, show (j : Int) / 8 = i by omega]
            rw [← cur_set hm hjt, h5]
          try (conv => whnf)
          trivial
        · refine Pick.mk (i + 1) (by constructor <;> first | omega | (simp only []; omega)) (LeX.of ?_)
          try (conv => whnf)
          repeat (refine Need.mk ?_ ?_; (focus (first | omega | (simp; done))); conv => whnf)
          refine Need.mk (by rw [cur_end hm (by omega), cur_end hm (by omega)]) ?_
          try (conv => whnf)
          trivial
        · refine Pick.mk (i + 1) (by constructor <;> first | omega | (simp only []; omega)) (LeX.of ?_)
          try (conv => whnf)
          repeat (refine Need.mk ?_ ?_; (focus (first | omega | (simp; done))); conv => whnf)
          refine Need.mk (by rw [show j = 8 * (i + 1) by omega]) ?_
          try (conv => whnf)
          trivial
    · try (conv => whnf)
      refine Out.mk false [0, 1, 2, 3, 4] [] ?_
      try (conv => whnf)
      repeat (refine Need.mk ?_ ?_; (focus ((first | exact flat_by _ | exact flat_in _ | exact flat_st _ | exact flat_ts _ | exact flat_bo _ | exact flat_cl rfl))); conv => whnf)
      exact ⟨rfl, by rw [cur_end hm (by omega)]⟩

/-- The code of sealing. -/
def sealC (key : List UInt8) (n : Int) (t : List UInt8) : Int :=
  if key.length > 1048576 ∨ t.length > 1048576 then 2 else if key.length ≠ 8 ∨ n < 0 ∨ n > 1000000000000 ∨ t.length > 200 then 4 else 0
def sealB (key : List UInt8) (n : Int) (t : List UInt8) : List UInt8 :=
  if sealC key n t = 0 then mask key n t ++ ksum key (eight n ++ mask key n t) else []
theorem sealC_2 {key : List UInt8} {n : Int} {t : List UInt8} (h : key.length > 1048576 ∨ t.length > 1048576) : sealC key n t = 2 := if_pos h
theorem sealC_4 {key : List UInt8} {n : Int} {t : List UInt8} (h : ¬ (key.length > 1048576 ∨ t.length > 1048576)) (h2 : key.length ≠ 8 ∨ n < 0 ∨ n > 1000000000000 ∨ t.length > 200) : sealC key n t = 4 := by
  rw [sealC, if_neg h, if_pos h2]
theorem sealC_0 {key : List UInt8} {n : Int} {t : List UInt8} (h : key.length = 8) (h0 : 0 ≤ n) (h1 : n ≤ 1000000000000) (h2 : t.length ≤ 200) : sealC key n t = 0 := by
  rw [sealC, if_neg (by omega), if_neg (by omega)]
theorem s_SealText (key : List UInt8) (n : Int) (t : List UInt8) (hk : key.length ≤ 2 ^ 40) (ht : t.length ≤ 2 ^ 40) :
    CallD Try.prog id_spec_SealText [vY key, vI .i64 n, vS (bs t)] [] (.tup [(false, [.os 0 1 0 (sealB key n t).length]), (false, [cI (sealC key n t)])]) [.own 1 ((sealB key n t).map byD)] := by
  refine F_spec_SealText ?_
  try (conv => whnf)
  repeat' (first
    | (refine Pick.mk ?_ ?_ ?_; rotate_left; (focus (first | exact List.length_map _ | exact size_bs _ | (simp only [chunks]; rfl))); conv => whnf)
    | (refine br_dec (fun _ => ?_) (fun _ => ?_) <;> first | (exfalso; omega) | contradiction | conv => whnf)
    | (refine br_not ?_; conv => whnf)
    | (refine br_bne (fun _ => ?_) (fun _ => ?_) <;> first | (exfalso; omega) | contradiction | conv => whnf)
    | (refine br_beq (fun _ => ?_) (fun _ => ?_) <;> first | (exfalso; omega) | contradiction | conv => whnf))
  rotate_right 2
  · have c0 : sealC key n t = 0 := sealC_0 (by omega) (by omega) (by omega) (by omega)
    refine Hand.mk [] ?_
    try (conv => whnf)
    repeat (refine Pick.mk ?_ ?_ ?_; rotate_left; (focus ((refine SlOf.full ?_; first | (simp; done) | (simp; omega)))); conv => whnf)
    refine CallW.d (s_l16Mask key n t (by omega) (by omega) (by omega) (by omega) (by omega)) ?_
    try (conv => whnf)
    refine Hand.mk [] ?_
    try (conv => whnf)
    refine CallW.d (s_l16Eight _ (by omega) (by omega)) ?_
    try (conv => whnf)
    repeat (first
      | (refine Need.mk ?_ ?_; (focus ((simp; omega))); conv => whnf)
      | (refine Pick.mk ?_ ?_ ?_; rotate_left; (focus (first | (simp only [List.length_map, List.length_append, List.length_cons, List.length_nil, List.length_replicate, Nat.zero_add]; rfl) | with_reducible exact map_app _ _ _ | (refine SlOf.full ?_; first | (simp; done) | (simp; omega)))); conv => whnf))
    refine Hand.mk [] ?_
    try (conv => whnf)
    repeat (refine Pick.mk ?_ ?_ ?_; rotate_left; (focus ((refine SlOf.full ?_; first | (simp; done) | (simp; omega)))); conv => whnf)
    refine CallW.d (s_l16Sum key (eight n ++ mask key n t) (by omega) (by omega) (by simp; omega)) ?_
    try (conv => whnf)
    repeat (first
      | (refine Need.mk ?_ ?_; (focus ((simp; omega))); conv => whnf)
      | (refine Pick.mk ?_ ?_ ?_; rotate_left; (focus (first | (simp only [List.length_map, List.length_append, List.length_cons, List.length_nil, List.length_replicate, Nat.zero_add]; rfl) | with_reducible exact map_app _ _ _ | (refine SlOf.full ?_; first | (simp; done) | (simp; omega)))); conv => whnf))
    refine Out.mk false [0, 1, 2, 3, 4] [] ?_
    try (conv => whnf)
    repeat (refine Need.mk ?_ ?_; (focus ((first | exact flat_by _ | exact flat_in _ | exact flat_st _ | exact flat_ts _ | exact flat_bo _ | exact flat_cl rfl))); conv => whnf)
    rw [sealB, if_pos c0, c0]
    exact ⟨by simp, by simp⟩
  all_goals
    refine Out.mk false [0, 1, 2, 3, 4] [] ?_
    try (conv => whnf)
    repeat (refine Need.mk ?_ ?_; (focus ((first | exact flat_by _ | exact flat_in _ | exact flat_st _ | exact flat_ts _ | exact flat_bo _ | exact flat_cl rfl))); conv => whnf)
  all_goals first
    | (have c2 : sealC key n t = 2 := sealC_2 (by omega)
       rw [sealB, if_neg (by omega), c2]; exact ⟨rfl, rfl⟩)
    | (have c2 : sealC key n t = 4 := sealC_4 (by omega) (by omega)
       rw [sealB, if_neg (by omega), c2]; exact ⟨rfl, rfl⟩)
theorem i_SealText (key : List UInt8) (n : Int) (t : List UInt8) (hk : key.length ≤ 2 ^ 40) (ht : t.length ≤ 2 ^ 40) :
    CallD Try.prog id_impl_SealText [vY key, vI .i64 n, vS (bs t)] [] (.tup [(false, [.os 0 1 0 (sealB key n t).length]), (false, [cI (sealC key n t)])]) [.own 1 ((sealB key n t).map byD)] := by
  refine F_impl_SealText ?_
  try (conv => whnf)
  repeat' (first
    | (refine Pick.mk ?_ ?_ ?_; rotate_left; (focus (first | exact List.length_map _ | exact size_bs _)); conv => whnf)
    | (refine br_dec (fun _ => ?_) (fun _ => ?_) <;> first | (exfalso; omega) | contradiction | conv => whnf)
    | (refine br_not ?_; conv => whnf)
    | (refine br_bne (fun _ => ?_) (fun _ => ?_) <;> first | (exfalso; omega) | contradiction | conv => whnf)
    | (refine br_beq (fun _ => ?_) (fun _ => ?_) <;> first | (exfalso; omega) | contradiction | conv => whnf))
  rotate_right 2
  · have c0 : sealC key n t = 0 := sealC_0 (by omega) (by omega) (by omega) (by omega)
    refine Hand.mk [] ?_
    try (conv => whnf)
    refine CallW.d (i_xorStream key n t (by omega) (by omega) (by omega) (by omega) (by omega)) ?_
    try (conv => whnf)
    refine Hand.mk [] ?_
    try (conv => whnf)
    repeat (refine Pick.mk ?_ ?_ ?_; rotate_left; (focus ((refine SlOf.full ?_; first | (simp; done) | (simp; omega)))); conv => whnf)
    refine CallW.d (i_sealTag key n (mask key n t) (by omega) (by omega) (by simp; omega) (by omega) (by omega)) ?_
    try (conv => whnf)
    repeat (first
      | (refine Need.mk ?_ ?_; (focus ((simp; omega))); conv => whnf)
      | (refine Pick.mk ?_ ?_ ?_; rotate_left; (focus (first | (simp only [List.length_map, List.length_append, List.length_cons, List.length_nil, List.length_replicate, Nat.zero_add]; rfl) | with_reducible exact map_app _ _ _ | (refine SlOf.full ?_; first | (simp; done) | (simp; omega)))); conv => whnf))
    refine Out.mk false [0, 1, 2, 3, 4] [] ?_
    try (conv => whnf)
    repeat (refine Need.mk ?_ ?_; (focus ((first | exact flat_by _ | exact flat_in _ | exact flat_st _ | exact flat_ts _ | exact flat_bo _ | exact flat_cl rfl))); conv => whnf)
    rw [sealB, if_pos c0, c0]
    exact ⟨by simp, by simp⟩
  all_goals
    refine Out.mk false [0, 1, 2, 3, 4] [(0, 1)] ?_
    try (conv => whnf)
    repeat (refine Need.mk ?_ ?_; (focus ((first | exact flat_by _ | exact flat_in _ | exact flat_st _ | exact flat_ts _ | exact flat_bo _ | exact flat_cl rfl))); conv => whnf)
  all_goals first
    | (have c2 : sealC key n t = 2 := sealC_2 (by omega)
       rw [sealB, if_neg (by omega), c2]; exact ⟨rfl, rfl⟩)
    | (have c2 : sealC key n t = 4 := sealC_4 (by omega) (by omega)
       rw [sealB, if_neg (by omega), c2]; exact ⟨rfl, rfl⟩)
end Go.Proofs.Ytoklfidamhigcaa.D
