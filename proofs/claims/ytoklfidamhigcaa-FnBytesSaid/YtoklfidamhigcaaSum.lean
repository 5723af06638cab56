/- The sums of bytes under a key, by the reference: what each function gives back. -/
import Derived.Test.YtoklfidamhigcaaW
import Derived.Test.YtoklfidamhigcaaH
namespace Go.Proofs.Ytoklfidamhigcaa.D
open Go.RowKit
set_option maxRecDepth 100000
set_option linter.unusedVariables false
set_option linter.unusedSimpArgs false

/-- Four bytes of a number. -/
def four (v : Int) : List UInt8 := [u8 (v / 16777216), u8 (v / 65536), u8 (v / 256), u8 v]
@[simp] theorem four_length (v : Int) : (four v).length = 4 := rfl
def stepH (h : Nat) (c : UInt8) : Nat := (h ^^^ c.toNat) * 16777619 % 4294967296
def sumH (h : Nat) (l : List UInt8) : Nat := l.foldl stepH h
theorem sumH_lt {h : Nat} (hh : h < 4294967296) : ∀ l : List UInt8, sumH h l < 4294967296 := by
  intro l
  induction l generalizing h with
  | nil => exact hh
  | cons c l ih => exact ih (Nat.mod_lt _ (by omega))

theorem s_l01Four (v : Int) (h0 : 0 ≤ v) (h1 : v < 2 ^ 62) : CallD Try.prog id_spec_l01Four [vI .i64 v] [] (.one (.os 0 1 0 4)) [.own 1 ((four v).map byD)] := by
  refine F_spec_l01Four ?_
  try (conv => whnf)
  repeat (first
    | (refine Need.mk ?_ ?_; (focus (omega)); conv => whnf)
    | (refine Pick.mk ?_ ?_ ?_; rotate_left; (focus (first | (simp only [chunks]; rfl) | (refine tmodn ?_; omega) | (refine wdiv ?_ ?_ ?_ <;> omega) | exact wbyte _)); conv => whnf))
  refine Out.mk false [0, 1, 2, 3, 4] [] ?_
  try (conv => whnf)
  repeat (refine Need.mk ?_ ?_; (focus ((first | exact flat_by _ | exact flat_in _ | exact flat_st _ | exact flat_ts _ | exact flat_bo _ | exact flat_cl rfl))); conv => whnf)
  exact ⟨rfl, by simp [chunks, four, u8_mod]⟩
/-- Eight bytes of a number. -/
def eight (n : Int) : List UInt8 := four (n / 4294967296) ++ four (n % 4294967296)
@[simp] theorem eight_length (v : Int) : (eight v).length = 8 := rfl
theorem s_l16Eight (v : Int) (h0 : 0 ≤ v) (h1 : v < 2 ^ 62) : CallD Try.prog id_spec_l16Eight [vI .i64 v] [] (.one (.os 0 1 0 8)) [.own 1 ((eight v).map byD)] := by
  refine F_spec_l16Eight ?_
  try (conv => whnf)
  repeat (first
    | (refine Need.mk ?_ ?_; (focus (omega)); conv => whnf)
    | (refine Pick.mk ?_ ?_ ?_; rotate_left; (focus ((refine wdiv ?_ ?_ ?_ <;> omega))); conv => whnf))
  refine Hand.mk [] ?_
  try (conv => whnf)
  refine CallW.d (s_l01Four _ (by omega) (by omega)) ?_
  try (conv => whnf)
  repeat (first
    | (refine Need.mk ?_ ?_; (focus (omega)); conv => whnf)
    | (refine Pick.mk ?_ ?_ ?_; rotate_left; (focus ((refine tmodn ?_; omega))); conv => whnf))
  refine Hand.mk [] ?_
  try (conv => whnf)
  refine CallW.d (s_l01Four _ (by omega) (by omega)) ?_
  try (conv => whnf)
  repeat (first
    | (refine Need.mk ?_ ?_; (focus ((simp; done))); conv => whnf)
    | (refine Pick.mk ?_ ?_ ?_; rotate_left; (focus (first | (simp only [List.length_map, List.length_append, List.length_cons, List.length_nil, List.length_replicate, Nat.zero_add]; rfl) | with_reducible exact map_app _ _ _ | (refine SlOf.full ?_; first | (simp; done) | (simp; omega)))); conv => whnf))
  refine Out.mk false [0, 1, 2, 3, 4] [] ?_
  try (conv => whnf)
  repeat (refine Need.mk ?_ ?_; (focus ((first | exact flat_by _ | exact flat_in _ | exact flat_st _ | exact flat_ts _ | exact flat_bo _ | exact flat_cl rfl))); conv => whnf)
  exact ⟨rfl, by simp [eight]⟩
theorem s_l01Join (a b c : List UInt8) (ha : a.length ≤ 2 ^ 40) (hb : b.length ≤ 2 ^ 40) (hc : c.length ≤ 2 ^ 40) : CallD Try.prog id_spec_l01Join [vY a, vY b, vY c] [] (.one (.os 0 1 0 (a ++ b ++ c).length)) [.own 1 ((a ++ b ++ c).map byD)] := by
  refine F_spec_l01Join ?_
  try (conv => whnf)
  repeat (first
    | (refine Need.mk ?_ ?_; (focus (first | omega | (simp; done))); conv => whnf)
    | (refine Pick.mk ?_ ?_ ?_; rotate_left; (focus (first | (simp only [List.length_map, List.length_append, List.length_cons, List.length_nil, List.length_replicate, Nat.zero_add]; rfl) | with_reducible exact List.nil_append _ | with_reducible exact map_app _ _ _ | (simp only [chunks]; rfl) | (refine SlOf.full ?_; first | (simp; done) | (simp; omega)))); conv => whnf))
  refine Out.mk false [0, 1, 2, 3, 4] [] ?_
  try (conv => whnf)
  repeat (refine Need.mk ?_ ?_; (focus ((first | exact flat_by _ | exact flat_in _ | exact flat_st _ | exact flat_ts _ | exact flat_bo _ | exact flat_cl rfl))); conv => whnf)
  exact ⟨by simp [Nat.add_assoc], by simp⟩
theorem sumH_take {h : Nat} {l : List UInt8} {i : Nat} (hi : i < l.length) : sumH h (l.take (i + 1)) = stepH (sumH h (l.take i)) l[i] := by
  unfold sumH; rw [List.take_succ_eq_append_getElem hi, List.foldl_append, List.foldl_cons, List.foldl_nil]
theorem s_Sum32 (l : List UInt8) (hl : l.length ≤ 1048576) : CallD Try.prog id_spec_Sum32 [vY l] [] (vI .i64 (sumH 2166136261 l)) [] := by
  refine F_spec_Sum32 ?_
  try (conv => whnf)
  repeat (first
    | (refine Pick.mk ?_ ?_ ?_; rotate_left; (focus (exact List.length_map _)); conv => whnf)
    | (refine SeqJ.thru ?_; conv => whnf))
  refine br_false (decide_eq_false (by simp; omega)) ?_
  try (conv => whnf)
  refine LoopE.mk (fun i : Nat => mk [(0, vY l), (3, vI .i64 (sumH 2166136261 (l.take i))), (4, vI .i64 i)] []) (fun i => i ≤ l.length) (fun i => l.length - i) 0 (by omega) (LeX.of ?_) ?_
  · try (conv => whnf)
    repeat (refine Need.mk ?_ ?_; (focus (first | omega | (simp; done) | rfl)); conv => whnf)
    trivial
  · intro i hi
    try (conv => whnf)
    repeat (first
      | (refine Pick.mk ?_ ?_ ?_; rotate_left; (focus (exact List.length_map _)); conv => whnf)
      | (refine SeqJ.thru ?_; conv => whnf))
    refine br_dec (fun h => ?_) (fun h => ?_)
    · simp at h
      have h1 := sumH_lt (h := 2166136261) (by omega) (l.take i)
      have h2 := l[i].toNat_lt
      have h3 : sumH 2166136261 (l.take i) ^^^ l[i].toNat < 2 ^ 32 := Nat.xor_lt_two_pow (by omega) (by omega)
      try (conv => whnf)
      repeat (first
        | (refine Need.mk ?_ ?_; (focus (omega)); conv => whnf)
        | (refine Pick.mk ?_ ?_ ?_; rotate_left; (focus (first | (with_reducible refine xor_i64 ?_ ?_; all_goals omega) | (refine wid ?_ ?_ <;> omega) | (refine tmodn ?_; omega) | (refine pick_nat _ _ _ ?_; omega))); conv => whnf)
        | (refine SeqJ.thru ?_; conv => whnf))
      refine Pick.mk (i + 1) (by omega) (LeX.of ?_)
      have h4 := sumH_take (h := 2166136261) h
      simp only [stepH] at h4
      try (conv => whnf)
      repeat (refine Need.mk ?_ ?_; (focus (first | omega | (simp; done))); conv => whnf)
      trivial
    · simp at h
      try (conv => whnf)
      refine Out.mk true [] [] ?_
      try (conv => whnf)
      rw [List.take_of_length_le (by omega)]
      exact ⟨rfl, rfl⟩
/-- The sum of bytes under a key. -/
def ksum (key b : List UInt8) : List UInt8 := four (sumH 2166136261 (key ++ b ++ key)) ++ four (sumH 2166136261 (four (sumH 2166136261 (key ++ b ++ key)) ++ key ++ b))
@[simp] theorem ksum_length (key b : List UInt8) : (ksum key b).length = 8 := rfl
theorem s_KeySum (key b : List UInt8) (hk : 1 ≤ key.length) (hk2 : key.length ≤ 64) (hb : b.length ≤ 1000) :
    CallD Try.prog id_spec_KeySum [vY key, vY b] [] (.tup [(false, [.os 0 1 0 8]), (false, [cI 0])]) [.own 1 ((ksum key b).map byD)] := by
  refine F_spec_KeySum ?_
  try (conv => whnf)
  repeat (first
    | (refine Pick.mk ?_ ?_ ?_; rotate_left; (focus (exact List.length_map _)); conv => whnf)
    | (refine SeqJ.thru ?_; conv => whnf))
  refine br_false (decide_eq_false (by omega)) ?_
  try (conv => whnf)
  repeat (refine Pick.mk ?_ ?_ ?_; rotate_left; (focus (exact List.length_map _)); conv => whnf)
  refine br_false (decide_eq_false (by omega)) ?_
  try (conv => whnf)
  repeat (first
    | (refine Pick.mk ?_ ?_ ?_; rotate_left; (focus (exact List.length_map _)); conv => whnf)
    | (refine SeqJ.thru ?_; conv => whnf))
  refine br_false (decide_eq_false (by omega)) ?_
  try (conv => whnf)
  repeat (refine Pick.mk ?_ ?_ ?_; rotate_left; (focus (exact List.length_map _)); conv => whnf)
  refine br_false (decide_eq_false (by omega)) ?_
  try (conv => whnf)
  repeat (first
    | (refine Pick.mk ?_ ?_ ?_; rotate_left; (focus (first | exact List.length_map _ | (refine wid ?_ ?_ <;> omega))); conv => whnf)
    | (refine SeqJ.thru ?_; conv => whnf))
  refine br_false (decide_eq_false (by omega)) ?_
  try (conv => whnf)
  repeat (refine Pick.mk ?_ ?_ ?_; rotate_left; (focus (first | exact List.length_map _ | (refine wid ?_ ?_ <;> omega))); conv => whnf)
  refine br_false (decide_eq_false (by omega)) ?_
  try (conv => whnf)
  have l1 := sumH_lt (h := 2166136261) (by omega) (key ++ b ++ key)
  have l2 := sumH_lt (h := 2166136261) (by omega) (four (sumH 2166136261 (key ++ b ++ key)) ++ key ++ b)
  refine Hand.mk [] ?_
  try (conv => whnf)
  refine CallW.d (s_l01Join _ _ _ (by omega) (by omega) (by omega)) ?_
  try (conv => whnf)
  refine Hand.mk [] ?_
  try (conv => whnf)
  repeat (refine Pick.mk ?_ ?_ ?_; rotate_left; (focus ((refine SlOf.full ?_; first | (simp; done) | (simp; omega)))); conv => whnf)
  refine CallW.d (s_Sum32 _ (by simp; omega)) ?_
  try (conv => whnf)
  refine Hand.mk [] ?_
  try (conv => whnf)
  refine CallW.d (s_l01Four _ (by omega) (by omega)) ?_
  try (conv => whnf)
  refine Hand.mk [] ?_
  try (conv => whnf)
  repeat (refine Pick.mk ?_ ?_ ?_; rotate_left; (focus ((refine SlOf.full ?_; first | (simp; done) | (simp; omega)))); conv => whnf)
  refine CallW.d (s_l01Join _ _ _ (by simp) (by omega) (by omega)) ?_
  try (conv => whnf)
  refine Hand.mk [] ?_
  try (conv => whnf)
  repeat (refine Pick.mk ?_ ?_ ?_; rotate_left; (focus ((refine SlOf.full ?_; first | (simp; done) | (simp; omega)))); conv => whnf)
  refine CallW.d (s_Sum32 _ (by simp; omega)) ?_
  try (conv => whnf)
  refine Hand.mk [] ?_
  try (conv => whnf)
  refine CallW.d (s_l01Four _ (by omega) (by omega)) ?_
  try (conv => whnf)
  repeat (first
    | (refine Need.mk ?_ ?_; (focus ((simp; done))); conv => whnf)
    | (refine Pick.mk ?_ ?_ ?_; rotate_left; (focus (first | (simp only [List.length_map, List.length_append, List.length_cons, List.length_nil, List.length_replicate, Nat.zero_add]; rfl) | with_reducible exact map_app _ _ _ | (refine SlOf.full ?_; first | (simp; done) | (simp; omega)))); conv => whnf))
  refine Out.mk false [0, 1, 2, 3, 4] [] ?_
  try (conv => whnf)
  repeat (refine Need.mk ?_ ?_; (focus ((first | exact flat_by _ | exact flat_in _ | exact flat_st _ | exact flat_ts _ | exact flat_bo _ | exact flat_cl rfl))); conv => whnf)
  exact ⟨by simp, by simp [ksum]⟩
theorem s_l16Sum (key b : List UInt8) (hk : 1 ≤ key.length) (hk2 : key.length ≤ 64) (hb : b.length ≤ 1000) :
    CallD Try.prog id_spec_l16Sum [vY key, vY b] [] (.one (.os 0 1 0 8)) [.own 1 ((ksum key b).map byD)] := by
  refine F_spec_l16Sum ?_
  try (conv => whnf)
  refine Hand.mk [] ?_
  try (conv => whnf)
  refine CallW.d (s_KeySum _ _ (by omega) (by omega) (by omega)) ?_
  try (conv => whnf)
  refine Out.mk false [0, 1, 2, 3, 4] [] ?_
  try (conv => whnf)
  repeat (refine Need.mk ?_ ?_; (focus ((first | exact flat_by _ | exact flat_in _ | exact flat_st _ | exact flat_ts _ | exact flat_bo _ | exact flat_cl rfl))); conv => whnf)
  exact ⟨rfl, rfl⟩
def blk (key : List UInt8) (n i : Int) : List UInt8 := ksum key (eight n ++ eight i)
/-- Bytes under the stream of a key and a number. -/
def mask (key : List UInt8) (n : Int) (l : List UInt8) : List UInt8 := l.mapIdx fun i c => c ^^^ (blk key n (i / 8 : Nat)).getD (i % 8) 0
@[simp] theorem mask_length (key : List UInt8) (n : Int) (l : List UInt8) : (mask key n l).length = l.length := by simp [mask]
theorem mask_take {key : List UInt8} {n : Int} {l : List UInt8} {i : Nat} (hi : i < l.length) : (mask key n l).take (i + 1) = (mask key n l).take i ++ [l[i] ^^^ (blk key n (i / 8 : Nat)).getD (i % 8) 0] := by
  rw [List.take_succ_eq_append_getElem (by simpa using hi)]; simp [mask]
theorem s_l16Mask (key : List UInt8) (n : Int) (l : List UInt8) (hk : 1 ≤ key.length) (hk2 : key.length ≤ 64) (h0 : 0 ≤ n) (h1 : n ≤ 1000000000000) (hl : l.length ≤ 1000) :
    CallD Try.prog id_spec_l16Mask [vY key, vI .i64 n, vY l] [] (.one (.os 0 1 0 l.length)) [.own 1 ((mask key n l).map byD)] := by
  refine F_spec_l16Mask ?_
  try (conv => whnf)
  repeat (refine Pick.mk ?_ ?_ ?_; rotate_left; (focus ((simp only [chunks]; rfl))); conv => whnf)
  refine LoopE.mk (fun i : Nat => mk [(0, vY key), (1, vI .i64 n), (2, vY l), (7, .one (.os 8192 1 0 i)), (8, vY (if i = 0 then [] else blk key n ((i - 1 : Nat) / 8 : Nat))), (9, vI .i64 i)] [(8192, .own 1 (((mask key n l).take i).map byD))])
    (fun i => i ≤ l.length) (fun i => l.length - i) 0 (by omega) (LeX.of ?_) ?_
  · try (conv => whnf)
    repeat (refine Need.mk ?_ ?_; (focus (first | omega | (simp; done))); conv => whnf)
    refine Need.mk (SlOf.full (by simp)) ?_
    try (conv => whnf)
    repeat (refine Need.mk ?_ ?_; (focus (first | omega | (simp; done))); conv => whnf)
    trivial
  · intro i hi
    try (conv => whnf)
    repeat (first
      | (refine Pick.mk ?_ ?_ ?_; rotate_left; (focus (exact List.length_map _)); conv => whnf)
      | (refine SeqJ.thru ?_; conv => whnf))
    refine br_dec (fun h => ?_) (fun h => ?_)
    · simp at h
      try (conv => whnf)
      repeat (first
        | (refine Need.mk ?_ ?_; (focus (omega)); conv => whnf)
        | (refine Pick.mk ?_ ?_ ?_; rotate_left; (focus ((refine tmodn ?_; omega))); conv => whnf)
        | (refine SeqJ.thru ?_; conv => whnf))
      refine br_beq (fun h2 => ?_) (fun h2 => ?_)
      · try (conv => whnf)
        refine Hand.mk [] ?_
        try (conv => whnf)
        refine CallW.d (s_l16Eight _ (by omega) (by omega)) ?_
        try (conv => whnf)
        repeat (first
          | (refine Need.mk ?_ ?_; (focus (omega)); conv => whnf)
          | (refine Pick.mk ?_ ?_ ?_; rotate_left; (focus ((refine wdiv ?_ ?_ ?_ <;> omega))); conv => whnf))
        refine Hand.mk [] ?_
        try (conv => whnf)
        refine CallW.d (s_l16Eight _ (by omega) (by omega)) ?_
        try (conv => whnf)
        repeat (first
          | (refine Need.mk ?_ ?_; (focus ((simp; done))); conv => whnf)
          | (refine Pick.mk ?_ ?_ ?_; rotate_left; (focus (first | (simp only [List.length_map, List.length_append, List.length_cons, List.length_nil, List.length_replicate, Nat.zero_add]; rfl) | with_reducible exact map_app _ _ _ | (refine SlOf.full ?_; first | (simp; done) | (simp; omega)))); conv => whnf))
        refine Hand.mk [] ?_
        try (conv => whnf)
        repeat (refine Pick.mk ?_ ?_ ?_; rotate_left; (focus ((refine SlOf.full ?_; first | (simp; done) | (simp; omega)))); conv => whnf)
        refine CallW.d (s_l16Sum _ _ (by omega) (by omega) (by simp; done)) ?_
        try (conv => whnf)
        repeat (first
          | (refine Need.mk ?_ ?_; (focus (omega)); conv => whnf)
          | (refine Pick.mk ?_ ?_ ?_; rotate_left; (focus (first | assumption | (refine pick_nat _ _ _ ?_; omega))); conv => whnf))
        have e8 : ((i : Int) / 8) = ((i / 8 : Nat) : Int) := by omega
        rw [e8]
        refine Pick.mk _ (get_by _ (m := i % 8) (by rw [addN_eq]; omega) (by simp; omega)) ?_
        try (conv => whnf)
        repeat (first
          | (refine Need.mk ?_ ?_; (focus (first | omega | ((conv => whnf); (repeat (first | (refine Need.mk (by first | rfl | omega | (simp; done)) ?_; conv => whnf) | (refine Pick.mk ?_ ?_ ?_; rotate_left; (focus (first | with_reducible exact xor_u8 _ _ | (with_reducible refine xor_i64 ?_ ?_; all_goals omega) | (with_reducible refine xor_u32 ?_ ?_; all_goals omega) | assumption | with_reducible exact set_byN _ _ _ _ | with_reducible exact set_byI _ _ _ _ | with_reducible exact set_inN _ _ _ _ | with_reducible exact set_inI _ _ _ _ | with_reducible exact set_stN _ _ _ _ | with_reducible exact set_tsN _ _ _ _ | with_reducible exact set_tsI _ _ _ _ | with_reducible exact set_boN _ _ _ _ | with_reducible exact set_boI _ _ _ _ | (with_reducible refine get_mapN _ _ _ ?_; first | omega | (simp; omega)) | (with_reducible refine get_mapI _ _ _ ?_ ?_ <;> first | omega | (simp; omega)) | exact bs_beq _ _ | exact bs_less _ _ | exact bs_leq _ _ | with_reducible exact bs_app _ _ | (refine bs_get _ _ ?_; omega) | (refine bs_int _ _ ?_ ?_ <;> omega) | with_reducible exact sl_map0 _ _ _ | with_reducible exact sl_mapN _ _ _ | with_reducible exact sl_map _ _ _ _ | exact bs_extract0 _ _ | exact bs_extractN _ _ | exact bs_extract _ _ _ | (refine bnd_id ?_; omega) | (refine bnd_sub ?_ ?_ <;> omega) | (refine bnd_add ?_; omega) | (refine bnd_subN ?_ ?_ <;> omega) | (refine bnd_int ?_ ?_ <;> omega) | exact List.length_map _ | exact size_bs _ | (simp only [List.length_map, List.length_append, List.length_cons, List.length_nil, List.length_replicate, Nat.zero_add]; rfl) | with_reducible exact List.nil_append _ | with_reducible exact map_app _ _ _ | exact map_snoc byD _ _ | exact map_snoc inD _ _ | exact map_snoc stD _ _ | exact map_snoc tsD _ _ | (simp only [chunks]; rfl) | (refine wid ?_ ?_ <;> omega) | exact wby _ | with_reducible exact wby32 _ | with_reducible exact wu32 _ | exact wby64 _ | exact shr8 _ | exact shr16 _ | exact shr24 _ | exact shr32 _ | (refine tmodn ?_; omega) | (refine wdiv ?_ ?_ ?_ <;> omega) | exact wbyte _ | exact natlit _ | exact rep_by _ | exact rep_in _ | exact rep_bo _ | exact rep_st _ | (refine pick_nat _ _ _ ?_; omega) | (refine pick_int _ _ _ ?_ ?_ <;> omega) | (refine SlOf.full ?_; first | (simp; done) | (simp; omega)) | (with_reducible refine SlOf.pre _ _ ?_; first | omega | (simp; omega)) | ((fail_if_success (show @Eq (Option _) _ _)); rfl) | ((show @Eq (Option _) _ _); simp only [List.getElem?_cons_zero, List.getElem?_cons_succ]; done) | ((show @Eq (Option _) _ _); simp only [List.getElem?_cons_zero, List.getElem?_cons_succ]; rfl) | with_reducible rfl)); conv => whnf))); exact Done.mk trivial))); conv => whnf)
          | (refine Pick.mk ?_ ?_ ?_; rotate_left; (focus (first | with_reducible exact xor_u8 _ _ | (simp only [List.length_map, List.length_append, List.length_cons, List.length_nil, List.length_replicate, Nat.zero_add]; rfl) | exact map_snoc byD _ _ | (simp only [chunks]; rfl) | (refine wid ?_ ?_ <;> omega) | (refine SlOf.full ?_; first | (simp; done) | (simp; omega)))); conv => whnf))
        refine Pick.mk (i + 1) (by constructor <;> first | omega | (simp only []; omega)) (LeX.of ?_)
        try (conv => whnf)
        repeat (refine Need.mk ?_ ?_; (focus (first | omega | (simp; done))); conv => whnf)
        refine Need.mk (by rw [if_neg (by omega)]; exact SlOf.full rfl) ?_
        try (conv => whnf)
        repeat (refine Need.mk ?_ ?_; (focus (omega)); conv => whnf)
        refine Need.mk (by rw [mask_take h]; rfl) ?_
        try (conv => whnf)
        trivial
      · try (conv => whnf)
        repeat (first
          | (refine Need.mk ?_ ?_; (focus (omega)); conv => whnf)
          | (refine Pick.mk ?_ ?_ ?_; rotate_left; (focus (first | (refine tmodn ?_; omega) | (refine pick_nat _ _ _ ?_; omega))); conv => whnf))
        refine Pick.mk _ (pick_by _ (m := i % 8) (by omega) (by rw [if_neg (by omega)]; simp [blk]; omega)) ?_
        try (conv => whnf)
        repeat (first
          | (refine Need.mk ?_ ?_; (focus (first | omega | ((conv => whnf); (repeat (first | (refine Need.mk (by first | rfl | omega | (simp; done)) ?_; conv => whnf) | (refine Pick.mk ?_ ?_ ?_; rotate_left; (focus (first | with_reducible exact xor_u8 _ _ | (with_reducible refine xor_i64 ?_ ?_; all_goals omega) | (with_reducible refine xor_u32 ?_ ?_; all_goals omega) | assumption | with_reducible exact set_byN _ _ _ _ | with_reducible exact set_byI _ _ _ _ | with_reducible exact set_inN _ _ _ _ | with_reducible exact set_inI _ _ _ _ | with_reducible exact set_stN _ _ _ _ | with_reducible exact set_tsN _ _ _ _ | with_reducible exact set_tsI _ _ _ _ | with_reducible exact set_boN _ _ _ _ | with_reducible exact set_boI _ _ _ _ | (with_reducible refine get_mapN _ _ _ ?_; first | omega | (simp; omega)) | (with_reducible refine get_mapI _ _ _ ?_ ?_ <;> first | omega | (simp; omega)) | exact bs_beq _ _ | exact bs_less _ _ | exact bs_leq _ _ | with_reducible exact bs_app _ _ | (refine bs_get _ _ ?_; omega) | (refine bs_int _ _ ?_ ?_ <;> omega) | with_reducible exact sl_map0 _ _ _ | with_reducible exact sl_mapN _ _ _ | with_reducible exact sl_map _ _ _ _ | exact bs_extract0 _ _ | exact bs_extractN _ _ | exact bs_extract _ _ _ | (refine bnd_id ?_; omega) | (refine bnd_sub ?_ ?_ <;> omega) | (refine bnd_add ?_; omega) | (refine bnd_subN ?_ ?_ <;> omega) | (refine bnd_int ?_ ?_ <;> omega) | exact List.length_map _ | exact size_bs _ | (simp only [List.length_map, List.length_append, List.length_cons, List.length_nil, List.length_replicate, Nat.zero_add]; rfl) | with_reducible exact List.nil_append _ | with_reducible exact map_app _ _ _ | exact map_snoc byD _ _ | exact map_snoc inD _ _ | exact map_snoc stD _ _ | exact map_snoc tsD _ _ | (simp only [chunks]; rfl) | (refine wid ?_ ?_ <;> omega) | exact wby _ | with_reducible exact wby32 _ | with_reducible exact wu32 _ | exact wby64 _ | exact shr8 _ | exact shr16 _ | exact shr24 _ | exact shr32 _ | (refine tmodn ?_; omega) | (refine wdiv ?_ ?_ ?_ <;> omega) | exact wbyte _ | exact natlit _ | exact rep_by _ | exact rep_in _ | exact rep_bo _ | exact rep_st _ | (refine pick_nat _ _ _ ?_; omega) | (refine pick_int _ _ _ ?_ ?_ <;> omega) | (refine SlOf.full ?_; first | (simp; done) | (simp; omega)) | (with_reducible refine SlOf.pre _ _ ?_; first | omega | (simp; omega)) | ((fail_if_success (show @Eq (Option _) _ _)); rfl) | ((show @Eq (Option _) _ _); simp only [List.getElem?_cons_zero, List.getElem?_cons_succ]; done) | ((show @Eq (Option _) _ _); simp only [List.getElem?_cons_zero, List.getElem?_cons_succ]; rfl) | with_reducible rfl)); conv => whnf))); exact Done.mk trivial))); conv => whnf)
          | (refine Pick.mk ?_ ?_ ?_; rotate_left; (focus (first | with_reducible exact xor_u8 _ _ | (simp only [List.length_map, List.length_append, List.length_cons, List.length_nil, List.length_replicate, Nat.zero_add]; rfl) | exact map_snoc byD _ _ | (simp only [chunks]; rfl) | (refine wid ?_ ?_ <;> omega) | (refine SlOf.full ?_; first | (simp; done) | (simp; omega)))); conv => whnf))
        refine Pick.mk (i + 1) (by constructor <;> first | omega | (simp only []; omega)) (LeX.of ?_)
        try (conv => whnf)
        repeat (refine Need.mk ?_ ?_; (focus (first | omega | (simp; done))); conv => whnf)
        refine Need.mk (by rw [if_neg (by omega), if_neg (by omega), show (i - 1) / 8 = (i + 1 - 1) / 8 by omega]) ?_
        try (conv => whnf)
        repeat (refine Need.mk ?_ ?_; (focus (omega)); conv => whnf)
        refine Need.mk (by rw [mask_take h, if_neg (by omega), show (i - 1) / 8 = i / 8 by omega]) ?_
        try (conv => whnf)
        trivial
    · simp at h
      try (conv => whnf)
      refine Out.mk false [0, 1, 2, 3, 4] [] ?_
      try (conv => whnf)
      repeat (refine Need.mk ?_ ?_; (focus ((first | exact flat_by _ | exact flat_in _ | exact flat_st _ | exact flat_ts _ | exact flat_bo _ | exact flat_cl rfl))); conv => whnf)
      refine ⟨by simp; omega, by rw [List.take_of_length_le (by simp; omega)]⟩
end Go.Proofs.Ytoklfidamhigcaa.D
