/- Vectors of counts: told to be in order, joined, copied. -/
import Derived.Test.YtoklfidamhigcaaW
import Derived.Test.YtoklfidamhigcaaH
namespace Go.Proofs.Ytoklfidamhigcaa.D
open Go.RowKit
set_option maxRecDepth 100000
set_option linter.unusedVariables false
set_option linter.unusedSimpArgs false
theorem all_next {α : Type} {p : α → Prop} {l : List α} {i : Nat} (h : i < l.length) (ha : ∀ c ∈ l.take i, p c) (hp : p l[i]) : ∀ c ∈ l.take (i + 1), p c := by
  rw [List.take_succ_eq_append_getElem h]
  intro c hc
  rcases List.mem_append.1 hc with h1 | h1
  · exact ha c h1
  · simp at h1; subst h1; exact hp
theorem all_end {α : Type} {p : α → Prop} {l : List α} {i : Nat} (ha : ∀ c ∈ l.take i, p c) (h : l.length ≤ i) : ∀ c ∈ l, p c := by
  rwa [List.take_of_length_le h] at ha
theorem not_all {α : Type} {p : α → Prop} {l : List α} {i : Nat} (h : i < l.length) (hp : ¬ p l[i]) : ¬ ∀ c ∈ l, p c := fun ha => hp (ha _ (List.getElem_mem h))
theorem all_nil {α : Type} {p : α → Prop} {l : List α} : ∀ c ∈ l.take 0, p c := by simp
/-- A count in order. -/
abbrev cntOk (c : Int) : Prop := 0 ≤ c ∧ c ≤ 1000000000000
/-- A vector in order. -/
def VecOk (v : List Int) : Prop := v.length = 16 ∧ ∀ c ∈ v, cntOk c
instance (v : List Int) : Decidable (VecOk v) := by unfold VecOk; infer_instance
abbrev vV (v : List Int) : SV := .agg [cN v]
theorem vecNot {v : List Int} {i : Nat} (h : i < v.length) (h2 : ¬ cntOk v[i]) : decide (VecOk v) = false := by
  have : ¬ VecOk v := fun h3 => not_all h h2 h3.2
  simp [this]
theorem vecNo {v : List Int} (h : v.length ≠ 16) : decide (VecOk v) = false := by
  have : ¬ VecOk v := fun h3 => h h3.1
  simp [this]
theorem vecYes {v : List Int} {i : Nat} (h : v.length = 16) (h2 : ∀ c ∈ v.take i, cntOk c) (hi : 16 ≤ i) : decide (VecOk v) = true := by
  have : VecOk v := ⟨h, all_end h2 (by omega)⟩
  simp [this]
theorem s_VecOK (v : List Int) : CallD Try.prog id_spec_VecOK [vV v] [] (vB (decide (VecOk v))) [] := by
  refine F_spec_VecOK ?_
  try (conv => whnf)
  repeat' (first
    | (refine Pick.mk ?_ ?_ ?_; rotate_left; (focus (exact List.length_map _)); conv => whnf)
    | (refine SeqJ.thru ?_; conv => whnf)
    | (refine br_dec (fun _ => ?_) (fun _ => ?_) <;> first | (exfalso; omega) | contradiction | conv => whnf)
    | (refine br_not ?_; conv => whnf)
    | (refine br_bne (fun _ => ?_) (fun _ => ?_) <;> first | (exfalso; omega) | contradiction | conv => whnf)
    | (refine br_beq (fun _ => ?_) (fun _ => ?_) <;> first | (exfalso; omega) | contradiction | conv => whnf))
  · refine LoopE.mk (fun i : Nat => mk [(3, vI .i64 i), (1, .one (.ptr 4096 0))] [(4096, .box [cN v])]) (fun i => i ≤ 16 ∧ ∀ c ∈ v.take i, cntOk c) (fun i => 16 - i) 0 ⟨by omega, all_nil⟩ (LeX.of ?_) ?_
    · try (conv => whnf)
      repeat (refine Need.mk ?_ ?_; (focus (first | omega | (simp; done))); conv => whnf)
      trivial
    · rintro i ⟨hi, ha⟩
      try (conv => whnf)
      repeat' (first
        | (refine Pick.mk ?_ ?_ ?_; rotate_left; (focus (first | (refine wid ?_ ?_ <;> omega) | (refine pick_nat _ _ _ ?_; omega))); conv => whnf)
        | (refine SeqJ.thru ?_; conv => whnf)
        | (refine br_dec (fun _ => ?_) (fun _ => ?_) <;> first | (exfalso; omega) | contradiction | conv => whnf)
        | (refine br_not ?_; conv => whnf)
        | (refine br_bne (fun _ => ?_) (fun _ => ?_) <;> first | (exfalso; omega) | contradiction | conv => whnf)
        | (refine br_beq (fun _ => ?_) (fun _ => ?_) <;> first | (exfalso; omega) | contradiction | conv => whnf))
      · refine Out.mk true [] [] ?_
        try (conv => whnf)
        exact ⟨by rw [vecNot (i := i) (by omega) (by simp only [cntOk]; omega)], rfl⟩
      · refine Out.mk true [] [] ?_
        try (conv => whnf)
        exact ⟨by rw [vecNot (i := i) (by omega) (by simp only [cntOk]; omega)], rfl⟩
      · refine Pick.mk (i + 1) ⟨⟨by omega, all_next (by omega) ha (by simp only [cntOk]; omega)⟩, by omega⟩ (LeX.of ?_)
        try (conv => whnf)
        repeat (refine Need.mk ?_ ?_; (focus (first | omega | (simp; done))); conv => whnf)
        trivial
      · refine Out.mk true [] [] ?_
        try (conv => whnf)
        exact ⟨by rw [vecYes (by omega) ha (by omega)], rfl⟩
  · refine Out.mk true [] [] ?_
    try (conv => whnf)
    exact ⟨by rw [vecNo (by omega)], rfl⟩
theorem i_VecOK (v : List Int) : CallD Try.prog id_impl_VecOK [vV v] [] (vB (decide (VecOk v))) [] := by
  refine F_impl_VecOK ?_
  try (conv => whnf)
  repeat' (first
    | (refine Pick.mk ?_ ?_ ?_; rotate_left; (focus (exact List.length_map _)); conv => whnf)
    | (refine SeqJ.thru ?_; conv => whnf)
    | (refine br_dec (fun _ => ?_) (fun _ => ?_) <;> first | (exfalso; omega) | contradiction | conv => whnf)
    | (refine br_not ?_; conv => whnf)
    | (refine br_bne (fun _ => ?_) (fun _ => ?_) <;> first | (exfalso; omega) | contradiction | conv => whnf)
    | (refine br_beq (fun _ => ?_) (fun _ => ?_) <;> first | (exfalso; omega) | contradiction | conv => whnf))
  · refine LoopE.mk (fun i : Nat => mk [(12, vI .i64 i), (11, vI .i64 v.length), (10, vN v), (1, .one (.ptr 4096 0))] [(4096, .box [cN v])]) (fun i => i ≤ 16 ∧ ∀ c ∈ v.take i, cntOk c) (fun i => 16 - i) 0 ⟨by omega, all_nil⟩ (LeX.of ?_) ?_
    · try (conv => whnf)
      repeat (refine Need.mk ?_ ?_; (focus (first | omega | (simp; done))); conv => whnf)
      trivial
    · rintro i ⟨hi, ha⟩
      try (conv => whnf)
      repeat' (first
        | (refine Pick.mk ?_ ?_ ?_; rotate_left; (focus (first | (refine wid ?_ ?_ <;> omega) | (refine pick_nat _ _ _ ?_; omega))); conv => whnf)
        | (refine SeqJ.thru ?_; conv => whnf)
        | (refine br_dec (fun _ => ?_) (fun _ => ?_) <;> first | (exfalso; omega) | contradiction | conv => whnf)
        | (refine br_not ?_; conv => whnf)
        | (refine br_bne (fun _ => ?_) (fun _ => ?_) <;> first | (exfalso; omega) | contradiction | conv => whnf)
        | (refine br_beq (fun _ => ?_) (fun _ => ?_) <;> first | (exfalso; omega) | contradiction | conv => whnf))
      · refine Out.mk true [] [] ?_
        try (conv => whnf)
        exact ⟨by rw [vecNot (i := i) (by omega) (by simp only [cntOk]; omega)], rfl⟩
      · refine Out.mk true [] [] ?_
        try (conv => whnf)
        exact ⟨by rw [vecNot (i := i) (by omega) (by simp only [cntOk]; omega)], rfl⟩
      · refine Pick.mk (i + 1) ⟨⟨by omega, all_next (by omega) ha (by simp only [cntOk]; omega)⟩, by omega⟩ (LeX.of ?_)
        try (conv => whnf)
        repeat (refine Need.mk ?_ ?_; (focus (first | omega | (simp; done))); conv => whnf)
        trivial
      · refine Out.mk true [] [] ?_
        try (conv => whnf)
        exact ⟨by rw [vecYes (by omega) ha (by omega)], rfl⟩
  · refine Out.mk true [] [] ?_
    try (conv => whnf)
    exact ⟨by rw [vecNo (by omega)], rfl⟩
/-- The greater one of two counts, at each place. -/
def vmax (a b : List Int) : List Int := List.zipWith (fun x y => if y > x then y else x) a b
theorem vmax_take {a b : List Int} {i : Nat} (ha : i < a.length) (hb : i < b.length) : (vmax a b).take (i + 1) = (vmax a b).take i ++ [if b[i] > a[i] then b[i] else a[i]] := by
  rw [List.take_succ_eq_append_getElem (by simp [vmax]; omega)]
  simp [vmax]
theorem s_l02Join (a b : List Int) (ha : a.length = 16) (hb : b.length = 16) : CallD Try.prog id_spec_l02Join [vV a, vV b] [] (.agg [.os 0 1 0 16]) [.own 1 ((vmax a b).map inD)] := by
  refine F_spec_l02Join ?_
  try (conv => whnf)
  refine LoopE.mk (fun i : Nat => mk [(2, .one (.ptr 4096 0)), (3, .one (.ptr 4112 0)), (4, .one (.ptr 4128 0)), (5, .one (.ptr 8208 0)), (6, vI .i64 i)] [(4096, .box [cN a]), (4112, .box [cN b]), (4128, .box [.nil]), (8208, .box [.os 24800 1 0 i]), (24800, .own 1 (((vmax a b).take i).map inD))])
    (fun i => i ≤ 16) (fun i => 16 - i) 0 (by omega) (LeX.of ?_) ?_
  · try (conv => whnf)
    repeat (refine Need.mk ?_ ?_; (focus (first | omega | (simp; done))); conv => whnf)
    trivial
  · intro i hi
    have hm : (vmax a b).length = 16 := by simp [vmax]; omega
    try (conv => whnf)
    repeat' (first
      | (refine Need.mk ?_ ?_; (focus (first | omega | ((conv => whnf); (repeat (first | (refine Need.mk (by first | rfl | omega | (simp; done)) ?_; conv => whnf) | (refine Pick.mk ?_ ?_ ?_; rotate_left; (focus (first | with_reducible exact xor_u8 _ _ | (with_reducible refine xor_i64 ?_ ?_; all_goals omega) | (with_reducible refine xor_u32 ?_ ?_; all_goals omega) | assumption | with_reducible exact set_byN _ _ _ _ | with_reducible exact set_byI _ _ _ _ | with_reducible exact set_inN _ _ _ _ | with_reducible exact set_inI _ _ _ _ | with_reducible exact set_stN _ _ _ _ | with_reducible exact set_tsN _ _ _ _ | with_reducible exact set_tsI _ _ _ _ | with_reducible exact set_boN _ _ _ _ | with_reducible exact set_boI _ _ _ _ | (with_reducible refine get_mapN _ _ _ ?_; first | omega | (simp; omega)) | (with_reducible refine get_mapI _ _ _ ?_ ?_ <;> first | omega | (simp; omega)) | exact bs_beq _ _ | exact bs_less _ _ | exact bs_leq _ _ | with_reducible exact bs_app _ _ | (refine bs_get _ _ ?_; omega) | (refine bs_int _ _ ?_ ?_ <;> omega) | with_reducible exact sl_map0 _ _ _ | with_reducible exact sl_mapN _ _ _ | with_reducible exact sl_map _ _ _ _ | exact bs_extract0 _ _ | exact bs_extractN _ _ | exact bs_extract _ _ _ | (refine bnd_id ?_; omega) | (refine bnd_sub ?_ ?_ <;> omega) | (refine bnd_add ?_; omega) | (refine bnd_subN ?_ ?_ <;> omega) | (refine bnd_int ?_ ?_ <;> omega) | exact List.length_map _ | exact size_bs _ | (simp only [List.length_map, List.length_append, List.length_cons, List.length_nil, List.length_replicate, Nat.zero_add]; rfl) | with_reducible exact List.nil_append _ | with_reducible exact map_app _ _ _ | exact map_snoc byD _ _ | exact map_snoc inD _ _ | exact map_snoc stD _ _ | exact map_snoc tsD _ _ | (simp only [chunks]; rfl) | (refine wid ?_ ?_ <;> omega) | exact wby _ | with_reducible exact wby32 _ | with_reducible exact wu32 _ | exact wby64 _ | exact shr8 _ | exact shr16 _ | exact shr24 _ | exact shr32 _ | (refine tmodn ?_; omega) | (refine wdiv ?_ ?_ ?_ <;> omega) | exact wbyte _ | exact natlit _ | exact rep_by _ | exact rep_in _ | exact rep_bo _ | exact rep_st _ | (refine pick_nat _ _ _ ?_; omega) | (refine pick_int _ _ _ ?_ ?_ <;> omega) | (refine SlOf.full ?_; first | (simp; done) | (simp; omega)) | (with_reducible refine SlOf.pre _ _ ?_; first | omega | (simp; omega)) | ((fail_if_success (show @Eq (Option _) _ _)); rfl) | ((show @Eq (Option _) _ _); simp only [List.getElem?_cons_zero, List.getElem?_cons_succ]; done) | ((show @Eq (Option _) _ _); simp only [List.getElem?_cons_zero, List.getElem?_cons_succ]; rfl) | with_reducible rfl)); conv => whnf))); exact Done.mk trivial))); conv => whnf)
      | (refine Pick.mk ?_ ?_ ?_; rotate_left; (focus (first | (simp only [List.length_map, List.length_append, List.length_cons, List.length_nil, List.length_replicate, Nat.zero_add]; rfl) | exact map_snoc inD _ _ | (simp only [chunks]; rfl) | (refine wid ?_ ?_ <;> omega) | (refine pick_nat _ _ _ ?_; omega) | (refine SlOf.full ?_; first | (simp; done) | (simp; omega)))); conv => whnf)
      | (refine SeqJ.thru ?_; conv => whnf)
      | (refine br_dec (fun _ => ?_) (fun _ => ?_) <;> first | (exfalso; omega) | contradiction | conv => whnf)
      | (refine br_not ?_; conv => whnf)
      | (refine br_bne (fun _ => ?_) (fun _ => ?_) <;> first | (exfalso; omega) | contradiction | conv => whnf)
      | (refine br_beq (fun _ => ?_) (fun _ => ?_) <;> first | (exfalso; omega) | contradiction | conv => whnf))
    · refine Pick.mk (i + 1) (by constructor <;> first | omega | (simp only []; omega)) (LeX.of ?_)
      try (conv => whnf)
      repeat (refine Need.mk ?_ ?_; (focus (first | omega | (simp; done))); conv => whnf)
      refine Need.mk (by rw [vmax_take (by omega) (by omega)]) ?_
      try (conv => whnf)
      trivial
    · refine Out.mk false [0, 1, 2, 3, 4] [] ?_
      try (conv => whnf)
      repeat (refine Need.mk ?_ ?_; (focus ((first | exact flat_by _ | exact flat_in _ | exact flat_st _ | exact flat_ts _ | exact flat_bo _ | exact flat_cl rfl))); conv => whnf)
      obtain rfl : i = 16 := by omega
      exact ⟨rfl, by rw [List.take_of_length_le (by omega)]⟩
theorem i_vecJoin (a b : List Int) (ha : a.length = 16) (hb : b.length = 16) : CallD Try.prog id_impl_vecJoin [vV a, vV b] [] (.agg [.os 0 1 0 16]) [.own 1 ((vmax a b).map inD)] := by
  refine F_impl_vecJoin ?_
  try (conv => whnf)
  repeat (first
    | (refine Need.mk ?_ ?_; (focus (omega)); conv => whnf)
    | (refine Pick.mk ?_ ?_ ?_; rotate_left; (focus (first | (simp only [List.length_map, List.length_append, List.length_cons, List.length_nil, List.length_replicate, Nat.zero_add]; rfl) | exact natlit _)); conv => whnf))
  refine LoopE.mk (fun i : Nat => mk [(2, .one (.ptr 4096 0)), (3, .one (.ptr 4112 0)), (4, .one (.ptr 4128 0)), (5, .one (.os 8192 1 0 16)), (9, vI .i64 16), (10, vI .i64 i)] [(4096, .box [cN a]), (4112, .box [cN b]), (4128, .box [.nil]), (8192, .own 1 ((over (vmax a b) (List.replicate 16 0) i).map inD))])
    (fun i => i ≤ 16) (fun i => 16 - i) 0 (by omega) (LeX.of ?_) ?_
  · try (conv => whnf)
    repeat (refine Need.mk ?_ ?_; (focus (first | omega | (simp only [List.length_map, List.length_append, List.length_cons, List.length_nil, List.length_replicate]; omega) | (simp; done) | rfl)); conv => whnf)
    trivial
  · intro i hi
    have hm : (vmax a b).length = 16 := by simp [vmax]; omega
    try (conv => whnf)
    repeat' (first
      | (refine Need.mk ?_ ?_; (focus (omega)); conv => whnf)
      | (refine Pick.mk ?_ ?_ ?_; rotate_left; (focus ((refine pick_nat _ _ _ ?_; omega))); conv => whnf)
      | (refine SeqJ.thru ?_; conv => whnf)
      | (refine br_dec (fun _ => ?_) (fun _ => ?_) <;> first | (exfalso; omega) | contradiction | conv => whnf)
      | (refine br_not ?_; conv => whnf)
      | (refine br_bne (fun _ => ?_) (fun _ => ?_) <;> first | (exfalso; omega) | contradiction | conv => whnf)
      | (refine br_beq (fun _ => ?_) (fun _ => ?_) <;> first | (exfalso; omega) | contradiction | conv => whnf))
    · refine Pick.mk (inD 0) (by rw [addN_eq, List.getElem?_map, show 0 + (i : Int).toNat = i by omega, over_get (by simp [hm]) (by simp; omega), List.getElem_replicate]; rfl) ?_
      try (conv => whnf)
      repeat (refine Pick.mk ?_ ?_ ?_; rotate_left; (focus (first | with_reducible exact set_inN _ _ _ _ | (refine wid ?_ ?_ <;> omega))); conv => whnf)
      refine Pick.mk (i + 1) (by constructor <;> first | omega | (simp only []; omega)) (LeX.of ?_)
      try (conv => whnf)
      repeat (refine Need.mk ?_ ?_; (focus (first | omega | (simp; done))); conv => whnf)
      refine Need.mk (by rw [← over_set (by simp [hm]) (by simp; omega)]; simp [vmax, -List.reduceReplicate]) ?_
      try (conv => whnf)
      trivial
    · refine Out.mk false [0, 1, 2, 3, 4] [] ?_
      try (conv => whnf)
      repeat (refine Need.mk ?_ ?_; (focus ((first | exact flat_by _ | exact flat_in _ | exact flat_st _ | exact flat_ts _ | exact flat_bo _ | exact flat_cl rfl))); conv => whnf)
      exact ⟨rfl, by rw [over_end (by simp [hm]) (by simp; omega)]⟩
theorem s_l02Copy (a : List Int) (ha : a.length ≤ 2 ^ 40) : CallD Try.prog id_spec_l02Copy [vV a] [] (.agg [.os 0 1 0 a.length]) [.own 1 (a.map inD)] := by
  refine F_spec_l02Copy ?_
  try (conv => whnf)
  repeat (first
    | (refine Need.mk ?_ ?_; (focus (first | omega | (simp; done))); conv => whnf)
    | (refine Pick.mk ?_ ?_ ?_; rotate_left; (focus (first | (simp only [List.length_map, List.length_append, List.length_cons, List.length_nil, List.length_replicate, Nat.zero_add]; rfl) | with_reducible exact List.nil_append _ | (simp only [chunks]; rfl) | (refine SlOf.full ?_; first | (simp; done) | (simp; omega)))); conv => whnf))
  refine Out.mk false [0, 1, 2, 3, 4] [] ?_
  try (conv => whnf)
  repeat (refine Need.mk ?_ ?_; (focus ((first | exact flat_by _ | exact flat_in _ | exact flat_st _ | exact flat_ts _ | exact flat_bo _ | exact flat_cl rfl))); conv => whnf)
  exact ⟨rfl, rfl⟩
theorem i_vecCopy (a : List Int) (ha : a.length ≤ 2 ^ 40) : CallD Try.prog id_impl_vecCopy [vV a] [] (.agg [.os 0 1 0 a.length]) [.own 1 (a.map inD)] := by
  refine F_impl_vecCopy ?_
  try (conv => whnf)
  repeat (first
    | (refine Need.mk ?_ ?_; (focus (first | omega | (simp; done))); conv => whnf)
    | (refine Pick.mk ?_ ?_ ?_; rotate_left; (focus (exact List.length_map _)); conv => whnf))
  refine Out.mk false [0, 1, 2, 3, 4] [] ?_
  try (conv => whnf)
  repeat (refine Need.mk ?_ ?_; (focus ((first | exact flat_by _ | exact flat_in _ | exact flat_st _ | exact flat_ts _ | exact flat_bo _ | exact flat_cl rfl))); conv => whnf)
  exact ⟨rfl, rfl⟩
end Go.Proofs.Ytoklfidamhigcaa.D
