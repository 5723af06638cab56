/- Vectors of counts: told to be in order, joined, copied. -/
import Derived.Test.YtpdjehnlejjfmaaJ6
namespace Go.Proofs.Ytpdjehnlejjfmaa.D
open Go.RowKit
set_option maxRecDepth 100000
set_option linter.unusedVariables false
set_option linter.unusedSimpArgs false
theorem all_next {α : Type} {p : α → Prop} {l : List α} {i : Nat} (h : i < l.length) (ha : ∀ c ∈ l.take i, p c) (hp : p l[i]) : ∀ c ∈ l.take (i + 1), p c := by
  rw [List.take_succ_eq_append_getElem h]
  intro c hc
  rcases List.mem_append.1 hc with h1 | h1
  · exact ha c h1
  · simp at h1; subst h1; exact hp
theorem all_end {α : Type} {p : α → Prop} {l : List α} {i : Nat} (ha : ∀ c ∈ l.take i, p c) (h : l.length ≤ i) : ∀ c ∈ l, p c := by
  rwa [List.take_of_length_le h] at ha
theorem not_all {α : Type} {p : α → Prop} {l : List α} {i : Nat} (h : i < l.length) (hp : ¬ p l[i]) : ¬ ∀ c ∈ l, p c := fun ha => hp (ha _ (List.getElem_mem h))
theorem all_nil {α : Type} {p : α → Prop} {l : List α} : ∀ c ∈ l.take 0, p c := by simp
/-- A count in order. -/
abbrev cntOk (c : Int) : Prop := 0 ≤ c ∧ c ≤ 1000000000000
/-- A vector in order. -/
def VecOk (v : List Int) : Prop := v.length = 16 ∧ ∀ c ∈ v, cntOk c
instance (v : List Int) : Decidable (VecOk v) := by unfold VecOk; infer_instance
abbrev vV (v : List Int) : SV := .agg [cN v]
theorem vecNot {v : List Int} {i : Nat} (h : i < v.length) (h2 : ¬ cntOk v[i]) : decide (VecOk v) = false := by
  have : ¬ VecOk v := fun h3 => not_all h h2 h3.2
  simp [this]
theorem vecNo {v : List Int} (h : v.length ≠ 16) : decide (VecOk v) = false := by
  have : ¬ VecOk v := fun h3 => h h3.1
  simp [this]
theorem vecYes {v : List Int} {i : Nat} (h : v.length = 16) (h2 : ∀ c ∈ v.take i, cntOk c) (hi : 16 ≤ i) : decide (VecOk v) = true := by
  have : VecOk v := ⟨h, all_end h2 (by omega)⟩
  simp [this]
theorem s_VecOK (v : List Int) : CallD Try.prog id_spec_VecOK [vV v] [] (vB (decide (VecOk v))) [] := by
  refine F_spec_VecOK ?_
  try (conv => whnf)
  repeat' (first
    | (refine Pick.mk ?_ ?_ ?_; rotate_left; (focus (exact List.length_map _)); conv => whnf)
    | (refine SeqJ.thru ?_; conv => whnf)
    | (refine br_dec (fun _ => ?_) (fun _ => ?_) <;> first | (exfalso; omega) | contradiction | conv => whnf)
    | (refine br_not ?_; conv => whnf)
    | (refine br_bne (fun _ => ?_) (fun _ => ?_) <;> first | (exfalso; omega) | contradiction | conv => whnf)
    | (refine br_beq (fun _ => ?_) (fun _ => ?_) <;> first | (exfalso; omega) | contradiction | conv => whnf))
  · refine LoopE.mk (fun i : Nat => mk [(3, vI .i64 i), (1, .one (.ptr 4096 0))] [(4096, .box [cN v])]) (fun i => i ≤ 16 ∧ ∀ c ∈ v.take i, cntOk c) (fun i => 16 - i) 0 ⟨by omega, all_nil⟩ (LeX.of ?_) ?_
    · try (conv => whnf)
      repeat (refine Need.mk ?_ ?_; (focus (first | omega | (simp; done))); conv => whnf)
      trivial
    · rintro i ⟨hi, ha⟩
      try (conv => whnf)
      repeat' (first
        | (refine Pick.mk ?_ ?_ ?_; rotate_left; (focus (first | (refine wid ?_ ?_ <;> omega) | (refine pick_nat _ _ _ ?_; omega))); conv => whnf)
        | (refine SeqJ.thru ?_; conv => whnf)
        | (refine br_dec (fun _ => ?_) (fun _ => ?_) <;> first | (exfalso; omega) | contradiction | conv => whnf)
        | (refine br_not ?_; conv => whnf)
        | (refine br_bne (fun _ => ?_) (fun _ => ?_) <;> first | (exfalso; omega) | contradiction | conv => whnf)
        | (refine br_beq (fun _ => ?_) (fun _ => ?_) <;> first | (exfalso; omega) | contradiction | conv => whnf))
      · refine Out.mk true [] [] ?_
        try (conv => whnf)
        exact ⟨by rw [vecNot (i := i) (by omega) (by simp only [cntOk]; omega)], rfl⟩
      · refine Out.mk true [] [] ?_
        try (conv => whnf)
        exact ⟨by rw [vecNot (i := i) (by omega) (by simp only [cntOk]; omega)], rfl⟩
      · refine Pick.mk (i + 1) ⟨⟨by omega, all_next (by omega) ha (by simp only [cntOk]; omega)⟩, by omega⟩ (LeX.of ?_)
        try (conv => whnf)
        repeat (refine Need.mk ?_ ?_; (focus (first | omega | (simp; done))); conv => whnf)
        trivial
      · refine Out.mk true [] [] ?_
        try (conv => whnf)
        exact ⟨by rw [vecYes (by omega) ha (by omega)], rfl⟩
  · refine Out.mk true [] [] ?_
    try (conv => whnf)
    exact ⟨by rw [vecNo (by omega)], rfl⟩
theorem i_VecOK (v : List Int) : CallD Try.prog id_impl_VecOK [vV v] [] (vB (decide (VecOk v))) [] := by
  refine F_impl_VecOK ?_
  try (conv => whnf)
  repeat' (first
    | (refine Pick.mk ?_ ?_ ?_; rotate_left; (focus (exact List.length_map _)); conv => whnf)
    | (refine SeqJ.thru ?_; conv => whnf)
    | (refine br_dec (fun _ => ?_) (fun _ => ?_) <;> first | (exfalso; omega) | contradiction | conv => whnf)
    | (refine br_not ?_; conv => whnf)
    | (refine br_bne (fun _ => ?_) (fun _ => ?_) <;> first | (exfalso; omega) | contradiction | conv => whnf)
    | (refine br_beq (fun _ => ?_) (fun _ => ?_) <;> first | (exfalso; omega) | contradiction | conv => whnf))
  · refine LoopE.mk (fun i : Nat => mk [(12, vI .i64 i), (11, vI .i64 v.length), (10, vN v), (1, .one (.ptr 4096 0))] [(4096, .box [cN v])]) (fun i => i ≤ 16 ∧ ∀ c ∈ v.take i, cntOk c) (fun i => 16 - i) 0 ⟨by omega, all_nil⟩ (LeX.of ?_) ?_
    · try (conv => whnf)
      repeat (refine Need.mk ?_ ?_; (focus (first | omega | (simp; done))); conv => whnf)
      trivial
    · rintro i ⟨hi, ha⟩
      try (conv => whnf)
      repeat' (first
        | (refine Pick.mk ?_ ?_ ?_; rotate_left; (focus (first | (refine wid ?_ ?_ <;> omega) | (refine pick_nat _ _ _ ?_; omega))); conv => whnf)
        | (refine SeqJ.thru ?_; conv => whnf)
        | (refine br_dec (fun _ => ?_) (fun _ => ?_) <;> first | (exfalso; omega) | contradiction | conv => whnf)
        | (refine br_not ?_; conv => whnf)
        | (refine br_bne (fun _ => ?_) (fun _ => ?_) <;> first | (exfalso; omega) | contradiction | conv => whnf)
        | (refine br_beq (fun _ => ?_) (fun _ => ?_) <;> first | (exfalso; omega) | contradiction | conv => whnf))
      · refine Out.mk true [] [] ?_
        try (conv => whnf)
        exact ⟨by rw [vecNot (i := i) (by omega) (by simp only [cntOk]; omega)], rfl⟩
      · refine Out.mk true [] [] ?_
        try (conv => whnf)
        exact ⟨by rw [vecNot (i := i) (by omega) (by simp only [cntOk]; omega)], rfl⟩
      · refine Pick.mk (i + 1) ⟨⟨by omega, all_next (by omega) ha (by simp only [cntOk]; omega)⟩, by omega⟩ (LeX.of ?_)
        try (conv => whnf)
        repeat (refine Need.mk ?_ ?_; (focus (first | omega | (simp; done))); conv => whnf)
        trivial
      · refine Out.mk true [] [] ?_
        try (conv => whnf)
        exact ⟨by rw [vecYes (by omega) ha (by omega)], rfl⟩
  · refine Out.mk true [] [] ?_
    try (conv => whnf)
    exact ⟨by rw [vecNo (by omega)], rfl⟩
/-- The greater one of two counts, at each place. -/
def vmax (a b : List Int) : List Int := List.zipWith (fun x y => if y > x then y else x) a b
theorem vmax_take {a b : List Int} {i : Nat} (ha : i < a.length) (hb : i < b.length) : (vmax a b).take (i + 1) = (vmax a b).take i ++ [if b[i] > a[i] then b[i] else a[i]] := by
  rw [List.take_succ_eq_append_getElem (by simp [vmax]; omega)]
  simp [vmax]
theorem s_l02Join (a b : List Int) (ha : a.length = 16) (hb : b.length = 16) : CallD Try.prog id_spec_l02Join [vV a, vV b] [] (.agg [.os (.v 0) 1 0 16]) [.own 1 ((vmax a b).map inD)] := by
  refine F_spec_l02Join ?_
  try (conv => whnf)
  refine LoopE.mk (fun i : Nat => mk [(2, .one (.ptr 4096 0)), (3, .one (.ptr 4112 0)), (4, .one (.ptr 4128 0)), (5, .one (.ptr 8208 0)), (6, vI .i64 i)] [(4096, .box [cN a]), (4112, .box [cN b]), (4128, .box [.nil]), (8208, .box [.os (.v 24800) 1 0 i]), (24800, .own 1 (((vmax a b).take i).map inD))])
    (fun i => i ≤ 16) (fun i => 16 - i) 0 (by omega) (LeX.of ?_) ?_
  · try (conv => whnf)
    repeat (refine Need.mk ?_ ?_; (focus (first | omega | (simp; done))); conv => whnf)
    trivial
  · intro i hi
    have hm : (vmax a b).length = 16 := by simp [vmax]; omega
    try (conv => whnf)
    repeat' (first
      | (refine Need.mk ?_ ?_; (focus (first | omega | rfl | ((conv => whnf); (repeat (first | (refine Need.mk (by first | rfl | omega | (simp; done)) ?_; conv => whnf) | (refine Pick.mk ?_ ?_ ?_; rotate_left; (focus (first | with_reducible exact xor_u8 _ _ | (with_reducible refine xor_i64 ?_ ?_; all_goals omega) | (with_reducible refine xor_u32 ?_ ?_; all_goals omega) | assumption | with_reducible exact set_byN _ _ _ _ | with_reducible exact set_byI _ _ _ _ | with_reducible exact set_inN _ _ _ _ | with_reducible exact set_inI _ _ _ _ | with_reducible exact set_stN _ _ _ _ | with_reducible exact set_tsN _ _ _ _ | with_reducible exact set_tsI _ _ _ _ | with_reducible exact set_boN _ _ _ _ | with_reducible exact set_boI _ _ _ _ | (with_reducible refine get_mapN _ _ _ ?_; first | omega | (simp; omega)) | (with_reducible refine get_mapI _ _ _ ?_ ?_ <;> first | omega | (simp; omega)) | exact bs_beq _ _ | exact bs_less _ _ | exact bs_leq _ _ | with_reducible exact bs_app _ _ | (refine bs_get _ _ ?_; omega) | (refine bs_int _ _ ?_ ?_ <;> omega) | with_reducible exact sl_map0 _ _ _ | with_reducible exact sl_mapN _ _ _ | with_reducible exact sl_map _ _ _ _ | exact bs_extract0 _ _ | exact bs_extractN _ _ | exact bs_extract _ _ _ | (refine bnd_id ?_; omega) | (refine bnd_sub ?_ ?_ <;> omega) | (refine bnd_add ?_; omega) | (refine bnd_subN ?_ ?_ <;> omega) | (refine bnd_int ?_ ?_ <;> omega) | ((show @Eq Nat (_ + Int.toNat _ * _) _); simp only [Int.toNat_natCast, Nat.zero_add, Nat.mul_one]; rfl) | ((show @Eq (List _) (List.set [_] _ _) _); simp only [List.set_cons_zero]; rfl) | exact List.length_map _ | exact size_bs _ | (simp only [List.length_map, List.length_append, List.length_cons, List.length_nil, List.length_replicate, Nat.zero_add]; rfl) | with_reducible exact List.nil_append _ | with_reducible exact map_app _ _ _ | exact map_snoc byD _ _ | exact map_snoc inD _ _ | exact map_snoc stD _ _ | exact map_snoc tsD _ _ | (simp only [chunks]; rfl) | (refine wid ?_ ?_ <;> omega) | exact wby _ | with_reducible exact wby32 _ | with_reducible exact wu32 _ | exact wby64 _ | exact shr8 _ | exact shr16 _ | exact shr24 _ | exact shr32 _ | (refine tmodn ?_; omega) | (refine wdiv ?_ ?_ ?_ <;> omega) | exact wbyte _ | exact natlit _ | exact rep_by _ | exact rep_in _ | exact rep_bo _ | exact rep_st _ | (refine pick_nat _ _ _ ?_; omega) | (refine pick_int _ _ _ ?_ ?_ <;> omega) | (refine SlOf.full ?_; first | (simp; done) | (simp; omega)) | (with_reducible refine SlOf.pre _ _ ?_; first | omega | (simp; omega)) | (refine SlF.self _ _ ?_ ?_; (first | rfl | omega | (simp; done) | (simp; omega)); (exact fun _ => rfl)) | (refine SlF.pre _ _ ?_ ?_; (first | omega | (simp; omega)); (exact fun _ => rfl)) | (refine SlF.same ?_ ?_; (first | rfl | omega | (simp; done) | (simp; omega)); (first | exact fz_self _ _ (fun _ => rfl) | exact fz_pl rfl | (refine Fz.append ?_ ?_ <;> first | exact fz_self _ _ (fun _ => rfl) | exact fz_pl rfl) | (refine Fz.append (Fz.append ?_ ?_) ?_ <;> first | exact fz_self _ _ (fun _ => rfl) | exact fz_pl rfl))) | (simp only [Int.toNat_natCast, Nat.zero_add, Nat.mul_one]; rfl) | ((fail_if_success (show @Eq (Option _) _ _)); rfl) | ((show @Eq (Option _) _ _); simp only [List.getElem?_cons_zero, List.getElem?_cons_succ]; done) | ((show @Eq (Option _) _ _); simp only [List.getElem?_cons_zero, List.getElem?_cons_succ]; rfl) | with_reducible rfl)); conv => whnf))); exact Done.mk trivial))); conv => whnf)
      | (refine Pick.mk ?_ ?_ ?_; rotate_left; (focus (first | (simp only [List.length_map, List.length_append, List.length_cons, List.length_nil, List.length_replicate, Nat.zero_add]; rfl) | exact map_snoc inD _ _ | (simp only [chunks]; rfl) | (refine wid ?_ ?_ <;> omega) | (refine pick_nat _ _ _ ?_; omega) | (refine SlOf.full ?_; first | (simp; done) | (simp; omega)))); conv => whnf)
      | (refine SeqJ.thru ?_; conv => whnf)
      | (refine br_dec (fun _ => ?_) (fun _ => ?_) <;> first | (exfalso; omega) | contradiction | conv => whnf)
      | (refine br_not ?_; conv => whnf)
      | (refine br_bne (fun _ => ?_) (fun _ => ?_) <;> first | (exfalso; omega) | contradiction | conv => whnf)
      | (refine br_beq (fun _ => ?_) (fun _ => ?_) <;> first | (exfalso; omega) | contradiction | conv => whnf))
    · refine Pick.mk (i + 1) (by constructor <;> first | omega | (simp only []; omega)) (LeX.of ?_)
      try (conv => whnf)
      repeat (refine Need.mk ?_ ?_; (focus (first | omega | (simp; done))); conv => whnf)
      refine Need.mk (by rw [vmax_take (by omega) (by omega)]) ?_
      try (conv => whnf)
      trivial
    · refine Out.mk false [0, 1, 2, 3, 4] [] ?_
      try (conv => whnf)
      repeat (refine Need.mk ?_ ?_; (focus ((first | exact flat_by _ | exact flat_in _ | exact flat_st _ | exact flat_ts _ | exact flat_bo _ | exact flat_cl rfl))); conv => whnf)
      obtain rfl : i = 16 := by omega
      exact ⟨rfl, by rw [List.take_of_length_le (by omega)]⟩
theorem i_vecJoin (a b : List Int) (ha : a.length = 16) (hb : b.length = 16) : CallD Try.prog id_impl_vecJoin [vV a, vV b] [] (.agg [.os (.v 0) 1 0 16]) [.own 1 ((vmax a b).map inD)] := by
  refine F_impl_vecJoin ?_
  try (conv => whnf)
  repeat (first
    | (refine Need.mk ?_ ?_; (focus (omega)); conv => whnf)
    | (refine Pick.mk ?_ ?_ ?_; rotate_left; (focus (first | (simp only [List.length_map, List.length_append, List.length_cons, List.length_nil, List.length_replicate, Nat.zero_add]; rfl) | exact natlit _)); conv => whnf))
  refine LoopE.mk (fun i : Nat => mk [(2, .one (.ptr 4096 0)), (3, .one (.ptr 4112 0)), (4, .one (.ptr 4128 0)), (5, .one (.os (.v 8192) 1 0 16)), (9, vI .i64 16), (10, vI .i64 i)] [(4096, .box [cN a]), (4112, .box [cN b]), (4128, .box [.nil]), (8192, .own 1 ((over (vmax a b) (List.replicate 16 0) i).map inD))])
    (fun i => i ≤ 16) (fun i => 16 - i) 0 (by omega) (LeX.of ?_) ?_
  · try (conv => whnf)
    repeat (refine Need.mk ?_ ?_; (focus (first | omega | (simp only [List.length_map, List.length_append, List.length_cons, List.length_nil, List.length_replicate]; omega) | (simp; done) | rfl)); conv => whnf)
    trivial
  · intro i hi
    have hm : (vmax a b).length = 16 := by simp [vmax]; omega
    try (conv => whnf)
    repeat' (first
      | (refine Need.mk ?_ ?_; (focus (omega)); conv => whnf)
      | (refine Pick.mk ?_ ?_ ?_; rotate_left; (focus ((refine pick_nat _ _ _ ?_; omega))); conv => whnf)
      | (refine SeqJ.thru ?_; conv => whnf)
      | (refine br_dec (fun _ => ?_) (fun _ => ?_) <;> first | (exfalso; omega) | contradiction | conv => whnf)
      | (refine br_not ?_; conv => whnf)
      | (refine br_bne (fun _ => ?_) (fun _ => ?_) <;> first | (exfalso; omega) | contradiction | conv => whnf)
      | (refine br_beq (fun _ => ?_) (fun _ => ?_) <;> first | (exfalso; omega) | contradiction | conv => whnf))
    · refine Pick.mk (inD 0) (by rw [addN_eq, List.getElem?_map, show 0 + (i : Int).toNat = i by omega, over_get (by simp [hm]) (by simp; omega), List.getElem_replicate]; rfl) ?_
      try (conv => whnf)
      repeat (first
        | (refine Need.mk ?_ ?_; (focus ((simp only [List.length_map, List.length_append, List.length_cons, List.length_nil, List.length_replicate]; omega))); conv => whnf)
        | (refine Pick.mk ?_ ?_ ?_; rotate_left; (focus (first | with_reducible exact set_inN _ _ _ _ | (refine wid ?_ ?_ <;> omega))); conv => whnf))
      refine Pick.mk (i + 1) (by constructor <;> first | omega | (simp only []; omega)) (LeX.of ?_)
      try (conv => whnf)
      repeat (refine Need.mk ?_ ?_; (focus (first | omega | (simp; done))); conv => whnf)
      refine Need.mk (by rw [← over_set (by simp [hm]) (by simp; omega)]; simp [vmax, -List.reduceReplicate]) ?_
      try (conv => whnf)
      trivial
    · refine Out.mk false [0, 1, 2, 3, 4] [] ?_
      try (conv => whnf)
      repeat (refine Need.mk ?_ ?_; (focus ((first | exact flat_by _ | exact flat_in _ | exact flat_st _ | exact flat_ts _ | exact flat_bo _ | exact flat_cl rfl))); conv => whnf)
      exact ⟨rfl, by rw [over_end (by simp [hm]) (by simp; omega)]⟩
theorem s_l02Copy (a : List Int) (ha : a.length ≤ 2 ^ 40) : CallD Try.prog id_spec_l02Copy [vV a] [] (.agg [.os (.v 0) 1 0 a.length]) [.own 1 (a.map inD)] := by
  refine F_spec_l02Copy ?_
  try (conv => whnf)
  repeat (first
    | (refine Need.mk ?_ ?_; (focus (first | omega | (simp; done))); conv => whnf)
    | (refine Pick.mk ?_ ?_ ?_; rotate_left; (focus (first | (simp only [List.length_map, List.length_append, List.length_cons, List.length_nil, List.length_replicate, Nat.zero_add]; rfl) | with_reducible exact List.nil_append _ | (simp only [chunks]; rfl) | (refine SlOf.full ?_; first | (simp; done) | (simp; omega)))); conv => whnf))
  refine Out.mk false [0, 1, 2, 3, 4] [] ?_
  try (conv => whnf)
  repeat (refine Need.mk ?_ ?_; (focus ((first | exact flat_by _ | exact flat_in _ | exact flat_st _ | exact flat_ts _ | exact flat_bo _ | exact flat_cl rfl))); conv => whnf)
  exact ⟨rfl, rfl⟩
theorem i_vecCopy (a : List Int) (ha : a.length ≤ 2 ^ 40) : CallD Try.prog id_impl_vecCopy [vV a] [] (.agg [.os (.v 0) 1 0 a.length]) [.own 1 (a.map inD)] := by
  refine F_impl_vecCopy ?_
  try (conv => whnf)
  repeat (first
    | (refine Need.mk ?_ ?_; (focus (first | omega | (simp; done))); conv => whnf)
    | (refine Pick.mk ?_ ?_ ?_; rotate_left; (focus (exact List.length_map _)); conv => whnf))
  refine Out.mk false [0, 1, 2, 3, 4] [] ?_
  try (conv => whnf)
  repeat (refine Need.mk ?_ ?_; (focus ((first | exact flat_by _ | exact flat_in _ | exact flat_st _ | exact flat_ts _ | exact flat_bo _ | exact flat_cl rfl))); conv => whnf)
  exact ⟨rfl, rfl⟩
end Go.Proofs.Ytpdjehnlejjfmaa.D
/- Numbers, texts and runs as bytes: what is written and what is read. -/
namespace Go.Proofs.Ytpdjehnlejjfmaa.D
open Go.RowKit
set_option linter.unusedVariables false
set_option linter.unusedSimpArgs false

theorem u8_nat {n : Nat} (h : n < 256) : (u8 (n : Int)).toNat = n := by
  have := u8_val (n : Int)
  omega
theorem u8_self (c : UInt8) : u8 (c.toNat : Int) = c := by
  apply UInt8.toNat.inj
  exact u8_nat c.toNat_lt
/-- A number in groups of seven bits. -/
def put (n : Nat) : List UInt8 := if n < 128 then [u8 n] else u8 ((128 + n % 128 : Nat) : Int) :: put (n / 128)
termination_by n
theorem put_lt {n : Nat} (h : n < 128) : put n = [u8 n] := by rw [put, if_pos h]
theorem put_ge {n : Nat} (h : 128 ≤ n) : put n = u8 ((128 + n % 128 : Nat) : Int) :: put (n / 128) := by rw [put, if_neg (by omega)]
theorem put_pos (n : Nat) : 0 < (put n).length := by rw [put]; split <;> simp
theorem put_le : ∀ (k n : Nat), n < 128 ^ k → 0 < k → (put n).length ≤ k := by
  intro k
  induction k with
  | zero => intro n _ h; omega
  | succ k ih =>
    intro n h _
    by_cases h1 : n < 128
    · rw [put_lt h1]; simp
    · rw [put_ge (by omega)]
      have hk : 0 < k := by
        rcases Nat.eq_zero_or_pos k with h0 | h0
        · subst h0; simp at h; omega
        · exact h0
      have : n / 128 < 128 ^ k := Nat.div_lt_of_lt_mul (by rw [Nat.mul_comm, ← Nat.pow_succ]; exact h)
      have := ih _ this hk
      simp; omega
theorem put_len {n : Nat} (h : n < 2 ^ 63) : (put n).length ≤ 9 := put_le 9 n (by omega) (by omega)
/-- The number that bytes begin with, by how many were read ahead of them: and how many bytes it has. -/
def gs : Nat → List UInt8 → Option (Nat × Nat)
  | _, [] => none
  | n, c :: s => if n = 8 ∧ 63 < c.toNat then none else if c.toNat < 128 then (if n = 0 ∨ 0 < c.toNat then some (c.toNat, 1) else none)
    else (gs (n + 1) s).map fun r => (c.toNat % 128 + 128 * r.1, r.2 + 1)
def MaxN : Nat := 4611686018427387903
theorem gs_put : ∀ (v n : Nat) (m : List UInt8), v * 128 ^ n ≤ MaxN → (0 < n → 0 < v) → gs n (put v ++ m) = some (v, (put v).length) := by
  intro v
  induction v using Nat.strongRecOn with
  | _ v ih =>
    intro n m h h0
    have h9 : n ≤ 8 := by
      rcases Nat.lt_or_ge n 9 with hn | hn
      · omega
      · have : 0 < v := h0 (by omega)
        have : 128 ^ 9 ≤ 128 ^ n := Nat.pow_le_pow_right (by omega) hn
        have : 1 * 128 ^ 9 ≤ v * 128 ^ n := Nat.mul_le_mul (by omega) this
        simp only [MaxN] at h; omega
    have h8 : n = 8 → v ≤ 63 := fun e => by subst e; simp only [MaxN] at h; omega
    by_cases h1 : v < 128
    · rw [put_lt h1]
      have e := u8_nat (n := v) (by omega)
      simp only [List.cons_append, List.nil_append, gs, e]
      rw [if_neg (by omega), if_pos h1, if_pos (by omega)]; rfl
    · rw [put_ge (by omega)]
      have e := u8_nat (n := 128 + v % 128) (by omega)
      simp only [List.cons_append, gs, e]
      rw [if_neg (by omega), if_neg (by omega), ih (v / 128) (by omega) (n + 1) m ?_ (by omega)]
      · simp; omega
      · refine Nat.le_trans ?_ h
        rw [Nat.pow_succ, Nat.mul_comm (128 ^ n), ← Nat.mul_assoc]
        exact Nat.mul_le_mul_right _ (Nat.div_mul_le_self v 128)
theorem gs_inv : ∀ (s : List UInt8) (n v k : Nat), n ≤ 8 → gs n s = some (v, k) → s.take k = put v ∧ k ≤ s.length ∧ 0 < k ∧ v * 128 ^ n ≤ MaxN ∧ (0 < n → 0 < v) ∧ k + n ≤ 9 := by
  intro s
  induction s with
  | nil => intro n v k hn h; simp [gs] at h
  | cons c s ih =>
    intro n v k hn h
    simp only [gs] at h
    split at h
    · simp at h
    · rename_i h1
      split at h
      · rename_i h2
        split at h
        · rename_i h3
          simp at h
          obtain ⟨rfl, rfl⟩ := h
          refine ⟨?_, by simp, by omega, ?_, by omega, by omega⟩
          · rw [put_lt h2, u8_self]; simp
          · have : 128 ^ n ≤ 128 ^ 8 := Nat.pow_le_pow_right (by omega) hn
            rcases Nat.lt_or_ge n 8 with h4 | h4
            · have h5 : 128 ^ n ≤ 128 ^ 7 := Nat.pow_le_pow_right (by omega) (by omega)
              have : c.toNat * 128 ^ n ≤ 127 * 128 ^ 7 := Nat.mul_le_mul (by omega) h5
              simp only [MaxN]; omega
            · have : n = 8 := by omega
              subst this
              simp only [MaxN]; omega
        · simp at h
      · rename_i h2
        simp only [Option.map_eq_some_iff] at h
        obtain ⟨⟨v', k'⟩, h3, h4⟩ := h
        simp only [Prod.mk.injEq] at h4
        obtain ⟨rfl, rfl⟩ := h4
        have hn8 : n < 8 := by have := c.toNat_lt; omega
        obtain ⟨g1, g2, g3, g4, g5, g6⟩ := ih (n + 1) v' k' (by omega) h3
        have hv := g5 (by omega)
        refine ⟨?_, by simp; omega, by omega, ?_, by omega, by omega⟩
        · rw [put_ge (by omega)]
          have e1 : (c.toNat % 128 + 128 * v') / 128 = v' := by omega
          have e2 : 128 + (c.toNat % 128 + 128 * v') % 128 = c.toNat := by have := c.toNat_lt; omega
          rw [e1, e2, List.take_succ_cons, g1]
          rw [u8_self]
        · have e3 : v' * 128 ^ (n + 1) = (128 * v') * 128 ^ n := by rw [Nat.pow_succ]; rw [Nat.mul_comm (128 ^ n), ← Nat.mul_assoc, Nat.mul_comm v']
          rw [e3] at g4
          have h5 : 128 ^ n ≤ 128 ^ 7 := Nat.pow_le_pow_right (by omega) (by omega)
          have h6 : 128 * v' * 128 ^ n ≤ MaxN / 128 ^ (n+1) * 128 ^ (n + 1) := by
            rw [← e3]
            refine Nat.mul_le_mul_right _ ?_
            rw [Nat.le_div_iff_mul_le (Nat.pow_pos (by omega)), e3]; exact g4
          have e4 : (c.toNat % 128 + 128 * v') * 128 ^ n ≤ 127 * 128 ^ n + MaxN / 128 ^ (n + 1) * 128 ^ (n + 1) := by
            rw [Nat.add_mul]; exact Nat.add_le_add (Nat.mul_le_mul_right _ (by omega)) h6
          refine Nat.le_trans e4 ?_
          have : n = 0 ∨ n = 1 ∨ n = 2 ∨ n = 3 ∨ n = 4 ∨ n = 5 ∨ n = 6 ∨ n = 7 := by omega
          rcases this with rfl | rfl | rfl | rfl | rfl | rfl | rfl | rfl <;> simp only [MaxN] <;> decide
/-- .. at a place: the number and the place behind it. -/
def get (l : List UInt8) (a : Nat) : Option (Nat × Nat) := (gs 0 (l.drop a)).map fun r => (r.1, a + r.2)
theorem get_put (p m : List UInt8) (v : Nat) (h : v ≤ MaxN) : get (p ++ (put v ++ m)) p.length = some (v, p.length + (put v).length) := by
  rw [get, List.drop_left, gs_put v 0 m (by simpa using h) (by omega)]; rfl
theorem get_inv {l : List UInt8} {a v b : Nat} (h : get l a = some (v, b)) : l = l.take a ++ (put v ++ l.drop b) ∧ a < b ∧ b ≤ l.length ∧ v ≤ MaxN ∧ b = a + (put v).length := by
  simp only [get, Option.map_eq_some_iff] at h
  obtain ⟨⟨v', k⟩, h1, h2⟩ := h
  simp only [Prod.mk.injEq] at h2
  obtain ⟨rfl, rfl⟩ := h2
  obtain ⟨g1, g2, g3, g4, _, _⟩ := gs_inv _ _ _ _ (by omega) h1
  simp only [List.length_drop] at g2
  have hk : (put v').length = k := by rw [← g1]; simp; omega
  refine ⟨?_, by omega, by omega, by simpa using g4, by omega⟩
  rw [← g1, ← List.drop_drop, List.take_append_drop, List.take_append_drop]
theorem get_mono {l m : List UInt8} {a v b : Nat} (h : get l a = some (v, b)) : get (l ++ m) a = some (v, b) := by
  obtain ⟨h1, h2, h3, h4, h5⟩ := get_inv h
  have h6 : a = (l.take a).length := by simp; omega
  rw [h1, List.append_assoc, List.append_assoc]
  have := get_put (l.take a) (l.drop b ++ m) v h4
  rw [← h6] at this
  rw [this, h5]
theorem get_lt {l : List UInt8} {a : Nat} {r : Nat × Nat} (h : get l a = some r) : a < l.length := by
  obtain ⟨v, b⟩ := r
  obtain ⟨_, h2, h3, _⟩ := get_inv h; omega

/-- How many of their first bytes two texts share. -/
def alike : List UInt8 → List UInt8 → Nat
  | a :: az, b :: bz => if a = b then alike az bz + 1 else 0
  | _, _ => 0
theorem alike_le : ∀ (a b : List UInt8), alike a b ≤ a.length ∧ alike a b ≤ b.length
  | [], b => by simp [alike]
  | _ :: _, [] => by simp [alike]
  | a :: az, b :: bz => by simp only [alike]; split <;> simp; exact alike_le az bz
theorem alike_take : ∀ (a b : List UInt8), a.take (alike a b) = b.take (alike a b)
  | [], b => by simp [alike]
  | _ :: _, [] => by simp [alike]
  | a :: az, b :: bz => by simp only [alike]; split; (rename_i h; subst h; simp; exact alike_take az bz); simp
/-- Where they part, or one ends. -/
theorem alike_eq : ∀ (a b : List UInt8) (n : Nat), n ≤ a.length → n ≤ b.length → a.take n = b.take n → (∀ (h1 : n < a.length) (h2 : n < b.length), a[n] ≠ b[n]) → alike a b = n
  | [], b, n, h1, _, _, _ => by simp at h1; simp [alike, h1]
  | _ :: _, [], n, _, h1, _, _ => by simp at h1; simp [alike, h1]
  | a :: az, b :: bz, 0, _, _, _, h => by
    have := h (by simp) (by simp)
    simp only [List.getElem_cons_zero] at this
    rw [alike, if_neg this]
  | a :: az, b :: bz, n + 1, h1, h2, h3, h4 => by
    simp only [List.take_succ_cons, List.cons.injEq] at h3
    rw [alike, if_pos h3.1, alike_eq az bz n (by simpa using h1) (by simpa using h2) h3.2 fun g1 g2 => h4 (Nat.succ_lt_succ g1) (Nat.succ_lt_succ g2)]

def putTs (last : List UInt8) : List (List UInt8) → List UInt8
  | [] => []
  | t :: ts => put (alike last t) ++ put (t.length - alike last t) ++ t.drop (alike last t) ++ putTs t ts
/-- A list of texts as bytes. -/
def putT (ts : List (List UInt8)) : List UInt8 := put ts.length ++ putTs [] ts
def total (ts : List (List UInt8)) : Nat := (ts.map List.length).sum
theorem putTs_append (last : List UInt8) : ∀ (a b : List (List UInt8)), putTs last (a ++ b) = putTs last a ++ putTs (a.getLast?.getD last) b
  | [], b => by simp [putTs]
  | [t], b => by simp [putTs]
  | t :: u :: a, b => by
    have := putTs_append t (u :: a) b
    simp only [List.cons_append] at this ⊢
    rw [putTs, this]
    conv => rhs; rw [putTs]
    simp [List.append_assoc, List.getLast?_cons]
def MaxB : Nat := 1048576
/-- The texts that bytes hold from a place on: n more behind the last one, that had some bytes together. -/
def tsN (l : List UInt8) : Nat → Nat → List UInt8 → Nat → Option (List (List UInt8) × Nat)
  | 0, a, _, _ => some ([], a)
  | n + 1, a, last, all =>
    match get l a with
    | none => none
    | some (k, b) => match get l b with
      | none => none
      | some (m, c) =>
        if k ≤ last.length ∧ m ≤ l.length - c ∧ all + (k + m) ≤ MaxB ∧ alike last (last.take k ++ (l.drop c).take m) = k then
          (tsN l n (c + m) (last.take k ++ (l.drop c).take m) (all + (k + m))).map fun r => ((last.take k ++ (l.drop c).take m) :: r.1, r.2)
        else none
def getT (l : List UInt8) (a : Nat) : Option (List (List UInt8) × Nat) := match get l a with | none => none | some (n, b) => if n ≤ 4096 then tsN l n b [] 0 else none
theorem tsN_inv (l : List UInt8) : ∀ (n a : Nat) (last : List UInt8) (all : Nat) (ts : List (List UInt8)) (b : Nat), a ≤ l.length → tsN l n a last all = some (ts, b) →
    ts.length = n ∧ a ≤ b ∧ b ≤ l.length ∧ l = l.take a ++ (putTs last ts ++ l.drop b) ∧ (0 < n → all + total ts ≤ MaxB) := by
  intro n
  induction n with
  | zero => intro a last all ts b ha h; simp [tsN] at h; obtain ⟨rfl, rfl⟩ := h; simp [putTs, ha]
  | succ n ih =>
    intro a last all ts b ha h
    simp only [tsN] at h
    split at h
    · simp at h
    · rename_i k c h1
      split at h
      · simp at h
      · rename_i m d h2
        split at h
        · rename_i h3
          obtain ⟨h3, h4, h5, h6⟩ := h3
          simp only [Option.map_eq_some_iff] at h
          obtain ⟨⟨ts', b'⟩, h7, h8⟩ := h
          simp only [Prod.mk.injEq] at h8
          obtain ⟨rfl, rfl⟩ := h8
          obtain ⟨i1, i2, i3, i4, i5⟩ := get_inv h1
          obtain ⟨j1, j2, j3, j4, j5⟩ := get_inv h2
          obtain ⟨g1, g2, g3, g4, g5⟩ := ih (d + m) _ _ _ _ (by omega) h7
          have hlen : (last.take k ++ (l.drop d).take m).length = k + m := by simp; omega
          refine ⟨by simp [g1], by omega, g3, ?_, fun _ => ?_⟩
          · have e1 : (last.take k ++ (l.drop d).take m).drop k = (l.drop d).take m := by
              rw [List.drop_append_of_le_length (by simp; omega)]; simp
            have e2 : l.drop d = (l.drop d).take m ++ l.drop (d + m) := by rw [← List.drop_drop]; exact (List.take_append_drop _ _).symm
            have e3 : l.drop (d + m) = putTs (last.take k ++ (l.drop d).take m) ts' ++ l.drop b' := by
              have := congrArg (List.drop (d + m)) g4
              rw [List.drop_left' (by simp; omega)] at this
              exact this
            have e4 : l.drop c = put m ++ l.drop d := by
              have := congrArg (List.drop c) j1
              rw [List.drop_left' (by simp; omega)] at this
              exact this
            rw [putTs, h6, hlen, show k + m - k = m by omega, e1]
            conv => lhs; rw [i1, e4, e2, e3]
            simp [List.append_assoc]
          · simp only [total, List.map_cons, List.sum_cons, hlen] at g5 ⊢
            rcases Nat.eq_zero_or_pos n with h0 | h0
            · subst h0
              have : ts' = [] := List.eq_nil_of_length_eq_zero g1
              subst this; simp; omega
            · have := g5 h0; omega
        · simp at h
/-- What is written is read. -/
theorem tsN_put : ∀ (ts : List (List UInt8)) (p m : List UInt8) (last : List UInt8) (all : Nat), all + total ts ≤ MaxB → last.length ≤ MaxB →
    tsN (p ++ (putTs last ts ++ m)) ts.length p.length last all = some (ts, p.length + (putTs last ts).length)
  | [], p, m, last, all, _, _ => by simp [tsN, putTs]
  | t :: ts, p, m, last, all, h, hl => by
    obtain ⟨a1, a2⟩ := alike_le last t
    simp only [total, List.map_cons, List.sum_cons] at h
    have hB : MaxB ≤ MaxN := by simp [MaxB, MaxN]
    simp only [putTs, List.length_cons, tsN]
    have e1 := get_put p (put (t.length - alike last t) ++ (t.drop (alike last t) ++ (putTs t ts ++ m))) (alike last t) (by omega)
    have e2 := get_put (p ++ put (alike last t)) (t.drop (alike last t) ++ (putTs t ts ++ m)) (t.length - alike last t) (by omega)
    simp only [List.append_assoc, List.length_append] at e1 e2 ⊢
    simp only [e1, e2]
    have e3 : (p ++ (put (alike last t) ++ (put (t.length - alike last t) ++ (t.drop (alike last t) ++ (putTs t ts ++ m))))).drop (p.length + (put (alike last t)).length + (put (t.length - alike last t)).length) = t.drop (alike last t) ++ (putTs t ts ++ m) := by
      rw [← List.append_assoc, ← List.append_assoc]
      exact List.drop_left' (by simp; omega)
    have e4 : (t.drop (alike last t) ++ (putTs t ts ++ m)).take (t.length - alike last t) = t.drop (alike last t) := by
      exact List.take_left' (by simp)
    have e5 : last.take (alike last t) ++ t.drop (alike last t) = t := by rw [alike_take, List.take_append_drop]
    rw [e3, e4, e5, if_pos ⟨a1, by simp; omega, by omega, rfl⟩]
    have e6 := tsN_put ts (p ++ put (alike last t) ++ put (t.length - alike last t) ++ t.drop (alike last t)) m t (all + t.length) (by simp only [total]; omega) (by omega)
    simp only [List.append_assoc, List.length_append, List.length_drop] at e6
    rw [show alike last t + (t.length - alike last t) = t.length by omega]
    rw [show p.length + (put (alike last t)).length + (put (t.length - alike last t)).length + (t.length - alike last t) = p.length + ((put (alike last t)).length + ((put (t.length - alike last t)).length + (t.length - alike last t))) by omega, e6]
    simp; omega
theorem getT_put {ts : List (List UInt8)} (h : total ts ≤ MaxB) (hn : ts.length ≤ 4096) (p m : List UInt8) : getT (p ++ (putT ts ++ m)) p.length = some (ts, p.length + (putT ts).length) := by
  have e1 := get_put p (putTs [] ts ++ m) ts.length (by simp only [MaxN]; omega)
  have e2 := tsN_put ts (p ++ put ts.length) m [] 0 (by omega) (by simp)
  simp only [List.append_assoc, List.length_append] at e1 e2
  simp only [getT, putT, List.append_assoc, e1, if_pos hn, e2, List.length_append]
  simp; omega
theorem getT_inv {l : List UInt8} {a b : Nat} {ts : List (List UInt8)} (h : getT l a = some (ts, b)) : a < b ∧ b ≤ l.length ∧ l = l.take a ++ (putT ts ++ l.drop b) ∧ total ts ≤ MaxB ∧ ts.length ≤ 4096 := by
  simp only [getT] at h
  split at h
  · simp at h
  · rename_i n c h1
    split at h
    · rename_i h2
      obtain ⟨i1, i2, i3, i4, i5⟩ := get_inv h1
      obtain ⟨g1, g2, g3, g4, g5⟩ := tsN_inv l n c [] 0 ts b i3 h
      refine ⟨by omega, g3, ?_, ?_, by omega⟩
      · have e3 : l.drop c = putTs [] ts ++ l.drop b := by
          have := congrArg (List.drop c) g4
          rw [List.drop_left' (by simp; omega)] at this
          exact this
        conv => lhs; rw [i1, e3]
        simp [putT, g1, List.append_assoc]
      · rcases Nat.eq_zero_or_pos n with h0 | h0
        · have : ts = [] := List.eq_nil_of_length_eq_zero (by omega)
          subst this; simp [total]
        · have := g5 h0; omega
    · simp at h
theorem getT_mono {l m : List UInt8} {a b : Nat} {ts : List (List UInt8)} (h : getT l a = some (ts, b)) : getT (l ++ m) a = some (ts, b) := by
  obtain ⟨h1, h2, h3, h4, h5⟩ := getT_inv h
  have h6 : (l.take a).length = a := by simp; omega
  have h7 : b = a + (putT ts).length := by
    have := congrArg List.length h3
    simp at this; omega
  have := getT_put h4 h5 (l.take a) (l.drop b ++ m)
  rw [h6] at this
  rw [h3, List.append_assoc, List.append_assoc, this, h7]
end Go.Proofs.Ytpdjehnlejjfmaa.D
/- Runs of numbers as bytes: what is written and what is read. -/
namespace Go.Proofs.Ytpdjehnlejjfmaa.D
open Go.RowKit
set_option linter.unusedVariables false
set_option linter.unusedSimpArgs false

def M4 : Int := 1152921504606846975
/-- The sign in the lowest bit. -/
def zig (d : Int) : Nat := if d < 0 then (-2 * d - 1).toNat else (2 * d).toNat
def zag (z : Nat) : Int := if z % 2 = 1 then -(((z + 1) / 2 : Nat) : Int) else ((z / 2 : Nat) : Int)
theorem zag_zig (d : Int) : zag (zig d) = d := by
  unfold zag zig
  split <;> split at * <;> omega
theorem zig_zag (z : Nat) : zig (zag z) = z := by
  unfold zag zig
  split <;> split at * <;> omega
/-- How many go on with that difference. -/
def more (d : Int) : Int → List Int → Nat
  | _, [] => 0
  | y, z :: s => if z - y = d then more d z s + 1 else 0
theorem more_le (d : Int) : ∀ (y : Int) (s : List Int), more d y s ≤ s.length
  | _, [] => by simp [more]
  | y, z :: s => by simp only [more]; split <;> simp; exact more_le d z s
/-- How long the first run is. -/
def rl : List Int → Nat
  | [] => 0
  | [_] => 1
  | x :: y :: s => more (y - x) y s + 2
theorem rl_pos {s : List Int} (h : s ≠ []) : 0 < rl s := by
  match s, h with
  | [_], _ => simp [rl]
  | _ :: _ :: _, _ => simp [rl]
theorem rl_le (s : List Int) : rl s ≤ s.length := by
  match s with
  | [] => simp [rl]
  | [_] => simp [rl]
  | x :: y :: s => simp only [rl, List.length_cons]; have := more_le (y - x) y s; omega
/-- The numbers of a run. -/
def seq (v d : Int) : Nat → List Int
  | 0 => []
  | n + 1 => v :: seq (v + d) d n
@[simp] theorem seq_length (v d : Int) (n : Nat) : (seq v d n).length = n := by
  induction n generalizing v with
  | zero => rfl
  | succ n ih => simp [seq, ih]
theorem more_seq (d : Int) : ∀ (y : Int) (s : List Int), s.take (more d y s) = seq (y + d) d (more d y s)
  | _, [] => by simp [more, seq]
  | y, z :: s => by
    simp only [more]; split
    · rename_i h
      rw [List.take_succ_cons, seq, more_seq d z s]
      have : y + d = z := by omega
      rw [this]
    · simp [seq]
theorem rl_seq {x y : Int} {s : List Int} : (x :: y :: s).take (rl (x :: y :: s)) = seq x (y - x) (rl (x :: y :: s)) := by
  simp only [rl, List.take_succ_cons, seq]
  rw [more_seq, show x + (y - x) = y by omega]
def putRs (l : List Int) : List UInt8 :=
  match h : l with
  | [] => []
  | [x] => put x.toNat ++ put 1
  | x :: y :: s => put x.toNat ++ put (rl l) ++ put (zig (y - x)) ++ putRs (l.drop (rl l))
termination_by l.length
decreasing_by subst h; have := rl_pos (s := x :: y :: s) (by simp); simp; simp only [rl] at *; omega
/-- A list of numbers as bytes. -/
def putR (l : List Int) : List UInt8 := put l.length ++ putRs l
theorem putRs_nil : putRs [] = [] := by rw [putRs]
theorem putRs_one (x : Int) : putRs [x] = put x.toNat ++ put 1 := by rw [putRs]
theorem putRs_two (x y : Int) (s : List Int) : putRs (x :: y :: s) = put x.toNat ++ put (rl (x :: y :: s)) ++ put (zig (y - x)) ++ putRs ((x :: y :: s).drop (rl (x :: y :: s))) := by rw [putRs]
def inM (x : Int) : Prop := 0 ≤ x ∧ x ≤ M4
instance (x : Int) : Decidable (inM x) := by unfold inM; infer_instance
/-- The numbers that bytes hold from a place on: r more. -/
def rsN (l : List UInt8) (r a : Nat) : Option (List Int × Nat) :=
  if r = 0 then some ([], a) else
  match get l a with
  | none => none
  | some (v, b) => match get l b with
    | none => none
    | some (k, c) =>
      if h : (v : Int) ≤ M4 ∧ 1 ≤ k ∧ k ≤ r then
        if k = 1 then (rsN l (r - 1) c).map fun x => ((v : Int) :: x.1, x.2) else
        match get l c with
        | none => none
        | some (z, d) => if ∀ x ∈ seq v (zag z) k, inM x then (rsN l (r - k) d).map fun x => (seq v (zag z) k ++ x.1, x.2) else none
      else none
termination_by r
decreasing_by all_goals omega
/-- .. whether or not they are the shortest bytes of theirs. -/
def getR0 (l : List UInt8) (a : Nat) : Option (List Int × Nat) := match get l a with | none => none | some (n, b) => if n ≤ 4096 then rsN l n b else none
/-- .. and they are. -/
def getR (l : List UInt8) (a : Nat) : Option (List Int × Nat) := match getR0 l a with | none => none | some (xs, b) => if putR xs = (l.drop a).take (b - a) then some (xs, b) else none
theorem rsN_inv (l : List UInt8) : ∀ (r a : Nat) (xs : List Int) (b : Nat), a ≤ l.length → rsN l r a = some (xs, b) → xs.length = r ∧ a ≤ b ∧ b ≤ l.length ∧ ∀ x ∈ xs, inM x := by
  intro r
  induction r using Nat.strongRecOn with
  | _ r ih =>
    intro a xs b ha h
    rw [rsN] at h
    split at h
    · rename_i h0; simp at h; obtain ⟨rfl, rfl⟩ := h; simp [h0, ha]
    · rename_i h0
      split at h
      · simp at h
      · rename_i v c h1
        obtain ⟨i1, i2, i3, i4, i5⟩ := get_inv h1
        split at h
        · simp at h
        · rename_i k d h2
          obtain ⟨j1, j2, j3, j4, j5⟩ := get_inv h2
          split at h
          · rename_i h3
            split at h
            · rename_i h4
              simp only [Option.map_eq_some_iff] at h
              obtain ⟨⟨ys, e⟩, h5, h6⟩ := h
              simp only [Prod.mk.injEq] at h6
              obtain ⟨rfl, rfl⟩ := h6
              obtain ⟨g1, g2, g3, g4⟩ := ih (r - 1) (by omega) d ys e (by omega) h5
              refine ⟨by simp; omega, by omega, g3, fun x hx => ?_⟩
              rcases List.mem_cons.1 hx with rfl | hx
              · exact ⟨by omega, h3.1⟩
              · exact g4 x hx
            · rename_i h4
              split at h
              · simp at h
              · rename_i z e h5
                obtain ⟨k1, k2, k3, k4, k5⟩ := get_inv h5
                split at h
                · rename_i h6
                  simp only [Option.map_eq_some_iff] at h
                  obtain ⟨⟨ys, f⟩, h7, h8⟩ := h
                  simp only [Prod.mk.injEq] at h8
                  obtain ⟨rfl, rfl⟩ := h8
                  obtain ⟨g1, g2, g3, g4⟩ := ih (r - k) (by omega) e ys f (by omega) h7
                  refine ⟨by simp; omega, by omega, g3, fun x hx => ?_⟩
                  rcases List.mem_append.1 hx with hx | hx
                  · exact h6 x hx
                  · exact g4 x hx
                · simp at h
          · simp at h
theorem zig_le {x y : Int} (hx : inM x) (hy : inM y) : zig (y - x) ≤ MaxN := by
  simp only [inM, M4] at hx hy
  simp only [zig, MaxN]; split <;> omega
theorem rsN_put : ∀ (n : Nat) (xs : List Int) (p m : List UInt8), xs.length ≤ n → (∀ x ∈ xs, inM x) → xs.length ≤ 4096 → rsN (p ++ (putRs xs ++ m)) xs.length p.length = some (xs, p.length + (putRs xs).length) := by
  intro n
  induction n with
  | zero =>
    intro xs p m hn hx _
    have : xs = [] := List.eq_nil_of_length_eq_zero (by omega)
    subst this
    rw [rsN]; simp [putRs_nil]
  | succ n ih =>
    intro xs p m hn hx h4
    match xs, hn, hx, h4 with
    | [], _, _, _ => rw [rsN]; simp [putRs_nil]
    | [x], _, hx, _ =>
      have h0 := hx x (by simp)
      simp only [inM, M4] at h0
      have e1 := get_put p (put 1 ++ m) x.toNat (by simp only [MaxN]; omega)
      have e2 := get_put (p ++ put x.toNat) m 1 (by simp only [MaxN]; omega)
      simp only [List.append_assoc, List.length_append] at e1 e2
      rw [rsN, putRs_one]
      simp only [List.append_assoc, e1, e2, List.length_singleton]
      rw [if_neg (by omega), dif_pos ⟨by simp only [M4]; omega, by omega, by omega⟩, if_pos trivial, rsN]
      simp; omega
    | x :: y :: s, hn, hx, h4 =>
      have hrl := rl_le (x :: y :: s)
      have hr2 : 2 ≤ rl (x :: y :: s) := by simp [rl]
      have h0 := hx x (by simp)
      have h1 := hx y (by simp)
      have hz := zig_le h0 h1
      have h0' := h0
      simp only [inM, M4] at h0'
      generalize hk : rl (x :: y :: s) = k at *
      have hseq : (x :: y :: s).take k = seq x (y - x) k := by rw [← hk]; exact rl_seq
      have e1 := get_put p (put k ++ (put (zig (y - x)) ++ (putRs ((x :: y :: s).drop k) ++ m))) x.toNat (by simp only [MaxN]; omega)
      have e2 := get_put (p ++ put x.toNat) (put (zig (y - x)) ++ (putRs ((x :: y :: s).drop k) ++ m)) k (by simp only [MaxN]; omega)
      have e3 := get_put (p ++ put x.toNat ++ put k) (putRs ((x :: y :: s).drop k) ++ m) (zig (y - x)) hz
      have e4 := ih ((x :: y :: s).drop k) (p ++ put x.toNat ++ put k ++ put (zig (y - x))) m (by simp only [List.length_drop]; omega) (fun z hz => hx z (List.mem_of_mem_drop hz)) (by simp only [List.length_drop]; omega)
      rw [rsN, putRs_two, hk]
      simp only [List.append_assoc, List.length_append] at e1 e2 e3 e4 ⊢
      rw [← Nat.add_assoc] at e3
      simp only [e1, e2]
      have hx0 : ((x.toNat : Nat) : Int) = x := by omega
      rw [if_neg (by simp), dif_pos ⟨by rw [hx0]; exact h0.2, by omega, by omega⟩, if_neg (by omega)]
      simp only [e3, hx0, zag_zig]
      rw [if_pos ?_]
      · rw [List.length_drop] at e4
        rw [show p.length + (put x.toNat).length + (put k).length + (put (zig (y - x))).length = p.length + ((put x.toNat).length + ((put k).length + (put (zig (y - x))).length)) by omega, e4]
        simp only [Option.map_some, Option.some.injEq, Prod.mk.injEq]
        refine ⟨?_, by omega⟩
        rw [← hseq, List.take_append_drop]
      · intro z hz
        rw [← hseq] at hz
        exact hx z (List.mem_of_mem_take hz)
theorem getR0_put {xs : List Int} (hx : ∀ x ∈ xs, inM x) (hn : xs.length ≤ 4096) (p m : List UInt8) : getR0 (p ++ (putR xs ++ m)) p.length = some (xs, p.length + (putR xs).length) := by
  have e1 := get_put p (putRs xs ++ m) xs.length (by simp only [MaxN]; omega)
  have e2 := rsN_put _ xs (p ++ put xs.length) m (Nat.le_refl _) hx hn
  simp only [List.append_assoc, List.length_append] at e1 e2
  simp only [getR0, putR, List.append_assoc, e1, if_pos hn, e2, List.length_append]
  simp; omega
theorem getR_put {xs : List Int} (hx : ∀ x ∈ xs, inM x) (hn : xs.length ≤ 4096) (p m : List UInt8) : getR (p ++ (putR xs ++ m)) p.length = some (xs, p.length + (putR xs).length) := by
  rw [getR, getR0_put hx hn]
  simp
theorem getR0_inv {l : List UInt8} {a b : Nat} {xs : List Int} (h : getR0 l a = some (xs, b)) : a < b ∧ b ≤ l.length ∧ (∀ x ∈ xs, inM x) ∧ xs.length ≤ 4096 := by
  simp only [getR0] at h
  split at h
  · simp at h
  · rename_i n c h1
    split at h
    · rename_i h2
      obtain ⟨i1, i2, i3, i4, i5⟩ := get_inv h1
      obtain ⟨g1, g2, g3, g4⟩ := rsN_inv l n c xs b i3 h
      exact ⟨by omega, g3, g4, by omega⟩
    · simp at h
theorem getR_inv {l : List UInt8} {a b : Nat} {xs : List Int} (h : getR l a = some (xs, b)) : a < b ∧ b ≤ l.length ∧ l = l.take a ++ (putR xs ++ l.drop b) ∧ (∀ x ∈ xs, inM x) ∧ xs.length ≤ 4096 := by
  simp only [getR] at h
  split at h
  · simp at h
  · rename_i ys c h1
    split at h
    · rename_i h2
      simp only [Option.some.injEq, Prod.mk.injEq] at h
      obtain ⟨rfl, rfl⟩ := h
      obtain ⟨g1, g2, g3, g4⟩ := getR0_inv h1
      refine ⟨g1, g2, ?_, g3, g4⟩
      rw [h2]
      conv => lhs; rw [← List.take_append_drop a l, ← List.take_append_drop (c - a) (l.drop a), List.drop_drop, show a + (c - a) = c by omega]
    · simp at h
theorem getR_mono {l m : List UInt8} {a b : Nat} {xs : List Int} (h : getR l a = some (xs, b)) : getR (l ++ m) a = some (xs, b) := by
  obtain ⟨h1, h2, h3, h4, h5⟩ := getR_inv h
  have h6 : (l.take a).length = a := by simp; omega
  have h7 : b = a + (putR xs).length := by
    have := congrArg List.length h3
    simp at this; omega
  have := getR_put h4 h5 (l.take a) (l.drop b ++ m)
  rw [h6] at this
  rw [h3, List.append_assoc, List.append_assoc, this, h7]
end Go.Proofs.Ytpdjehnlejjfmaa.D
/- Operations: as values, and in order. -/
namespace Go.Proofs.Ytpdjehnlejjfmaa.D
open Go.RowKit
set_option maxRecDepth 100000
set_option maxHeartbeats 4000000
set_option linter.unusedVariables false
set_option linter.unusedSimpArgs false

structure OpV where
  actor : Int
  seq : Int
  time : Int
  deps : List Int
  kind : Int
  obj : Int
  n : Int
  undo : Int
  atT : Int
  atA : Int
  key : List UInt8
  text : List UInt8
def oD (o : OpV) : List DV := [.sc (.int .i64 o.actor), .sc (.int .i64 o.seq), .sc (.int .i64 o.time), .sl (o.deps.map inD), .sc (.int .i64 o.kind), .sc (.int .i64 o.obj), .sc (.int .i64 o.n), .sc (.int .i64 o.undo), .sc (.int .i64 o.atT), .sc (.int .i64 o.atA), .sc (.string (bs o.key)), .sc (.string (bs o.text))]
abbrev opC (o : OpV) : List CV := [cI o.actor, cI o.seq, cI o.time, cN o.deps, cI o.kind, cI o.obj, cI o.n, cI o.undo, cI o.atT, cI o.atA, cS (bs o.key), cS (bs o.text)]
abbrev vO (o : OpV) : SV := .agg (opC o)
abbrev timeOk (t : Int) : Prop := 1 ≤ t ∧ t ≤ 1000000000000
abbrev actOk (a : Int) : Prop := 0 ≤ a ∧ a < 16
def stOk (t a : Int) : Prop := timeOk t ∧ actOk a
instance (t a : Int) : Decidable (stOk t a) := by unfold stOk; infer_instance
/-- One stamp below another. -/
def stLt (t a u b : Int) : Prop := t < u ∨ t = u ∧ a < b
instance (t a u b : Int) : Decidable (stLt t a u b) := by unfold stLt; infer_instance
abbrev noSt (t a : Int) : Prop := t = 0 ∧ a = 0
def chOk (n : Int) : Prop := 0 ≤ n ∧ n ≤ 1114111 ∧ (n < 55296 ∨ n > 57343)
instance (n : Int) : Decidable (chOk n) := by unfold chOk; infer_instance
def kindOk (o : OpV) : Prop := (o.kind = 1 ∧ o.n = 0 ∧ noSt o.atT o.atA) ∨ (o.kind = 2 ∧ (o.key = [] ∧ o.text = []) ∧ chOk o.n) ∨ (o.kind = 3 ∧ (o.key = [] ∧ o.text = []) ∧ o.n = 0 ∧ ¬ noSt o.atT o.atA) ∨ (o.kind = 4 ∧ (o.key = [] ∧ o.text = []) ∧ noSt o.atT o.atA)
instance (o : OpV) : Decidable (kindOk o) := by unfold kindOk; infer_instance
/-- An operation in order. -/
structure OpOk (o : OpV) : Prop where
  st : stOk o.time o.actor
  seq : 1 ≤ o.seq ∧ o.seq ≤ 1000000000000
  vec : VecOk o.deps
  own : o.deps.getD o.actor.toNat 0 = o.seq - 1
  obj : 1 ≤ o.obj ∧ o.obj ≤ 100
  num : -1000000000000 ≤ o.n ∧ o.n ≤ 1000000000000
  undo : 0 ≤ o.undo ∧ o.undo < o.seq
  words : o.key.length ≤ 200 ∧ o.text.length ≤ 200
  at_ : noSt o.atT o.atA ∨ stOk o.atT o.atA ∧ stLt o.atT o.atA o.time o.actor
  kind : kindOk o
theorem opOk_iff (o : OpV) : OpOk o ↔ (stOk o.time o.actor ∧ (1 ≤ o.seq ∧ o.seq ≤ 1000000000000) ∧ VecOk o.deps ∧ o.deps.getD o.actor.toNat 0 = o.seq - 1 ∧ (1 ≤ o.obj ∧ o.obj ≤ 100) ∧ (-1000000000000 ≤ o.n ∧ o.n ≤ 1000000000000) ∧ (0 ≤ o.undo ∧ o.undo < o.seq) ∧ (o.key.length ≤ 200 ∧ o.text.length ≤ 200) ∧ (noSt o.atT o.atA ∨ stOk o.atT o.atA ∧ stLt o.atT o.atA o.time o.actor) ∧ kindOk o) :=
  ⟨fun h => ⟨h.st, h.seq, h.vec, h.own, h.obj, h.num, h.undo, h.words, h.at_, h.kind⟩, fun ⟨a, b, c, d, e, f, g, i, j, k⟩ => ⟨a, b, c, d, e, f, g, i, j, k⟩⟩
instance (o : OpV) : Decidable (OpOk o) := decidable_of_iff _ (opOk_iff o).symm
abbrev vSt (t a : Int) : SV := .agg [cI t, cI a]
theorem dec_t {p : Prop} [Decidable p] (h : p) : vB true = vB (decide p) := by rw [decide_eq_true h]
theorem dec_f {p : Prop} [Decidable p] (h : ¬ p) : vB false = vB (decide p) := by rw [decide_eq_false h]
theorem dec_b {p q : Prop} [Decidable p] [Decidable q] (h : p ↔ q) : vB (decide p) = vB (decide q) := by rw [show decide p = decide q from by simp [h]]
theorem i_isActor' (a : Int) : CallD Try.prog id_impl_isActor [vI .i64 a] [] (vB (decide (actOk a))) [] := by
  refine F_impl_isActor ?_
  try (conv => whnf)
  repeat' (first
    | (refine br_dec (fun _ => ?_) (fun _ => ?_) <;> first | (exfalso; omega) | contradiction | conv => whnf)
    | (refine br_not ?_; conv => whnf)
    | (refine br_bne (fun _ => ?_) (fun _ => ?_) <;> first | (exfalso; omega) | contradiction | conv => whnf)
    | (refine br_beq (fun _ => ?_) (fun _ => ?_) <;> first | (exfalso; omega) | contradiction | conv => whnf))
  all_goals
    refine Out.mk true [] [] ?_
    try (conv => whnf)
  all_goals first
    | exact ⟨dec_t (by omega), rfl⟩
    | exact ⟨dec_f (by omega), rfl⟩
    | exact ⟨dec_b (by omega), rfl⟩
theorem i_StampOK (t a : Int) : CallD Try.prog id_impl_StampOK [vSt t a] [] (vB (decide (stOk t a))) [] := by
  refine F_impl_StampOK ?_
  try (conv => whnf)
  repeat' (first
    | (refine br_dec (fun _ => ?_) (fun _ => ?_) <;> first | (exfalso; omega) | contradiction | conv => whnf)
    | (refine br_not ?_; conv => whnf)
    | (refine br_bne (fun _ => ?_) (fun _ => ?_) <;> first | (exfalso; omega) | contradiction | conv => whnf)
    | (refine br_beq (fun _ => ?_) (fun _ => ?_) <;> first | (exfalso; omega) | contradiction | conv => whnf))
  · refine Hand.mk [] ?_
    try (conv => whnf)
    refine CallW.d (i_isActor' a) ?_
    try (conv => whnf)
    refine Out.mk true [] [] ?_
    try (conv => whnf)
    exact ⟨dec_b (by simp only [stOk]; omega), rfl⟩
  all_goals
    refine Out.mk true [] [] ?_
    try (conv => whnf)
  all_goals exact ⟨dec_f (by simp only [stOk]; omega), rfl⟩
theorem s_StampOK (t a : Int) : CallD Try.prog id_spec_StampOK [vSt t a] [] (vB (decide (stOk t a))) [] := by
  refine F_spec_StampOK ?_
  try (conv => whnf)
  repeat' (first
    | (refine br_dec (fun _ => ?_) (fun _ => ?_) <;> first | (exfalso; omega) | contradiction | conv => whnf)
    | (refine br_not ?_; conv => whnf)
    | (refine br_bne (fun _ => ?_) (fun _ => ?_) <;> first | (exfalso; omega) | contradiction | conv => whnf)
    | (refine br_beq (fun _ => ?_) (fun _ => ?_) <;> first | (exfalso; omega) | contradiction | conv => whnf))
  all_goals
    refine Out.mk true [] [] ?_
    try (conv => whnf)
  all_goals first
    | exact ⟨dec_t (by simp only [stOk]; omega), rfl⟩
    | exact ⟨dec_f (by simp only [stOk]; omega), rfl⟩
    | exact ⟨dec_b (by simp only [stOk]; omega), rfl⟩
theorem i_StampLess (t a u b : Int) : CallD Try.prog id_impl_StampLess [vSt t a, vSt u b] [] (vB (decide (stLt t a u b))) [] := by
  refine F_impl_StampLess ?_
  try (conv => whnf)
  repeat' (first
    | (refine SeqJ.thru ?_; conv => whnf)
    | (refine br_dec (fun _ => ?_) (fun _ => ?_) <;> first | (exfalso; omega) | contradiction | conv => whnf)
    | (refine br_not ?_; conv => whnf)
    | (refine br_bne (fun _ => ?_) (fun _ => ?_) <;> first | (exfalso; omega) | contradiction | conv => whnf)
    | (refine br_beq (fun _ => ?_) (fun _ => ?_) <;> first | (exfalso; omega) | contradiction | conv => whnf))
  all_goals
    refine Out.mk true [] [] ?_
    try (conv => whnf)
  all_goals first
    | exact ⟨dec_t (by simp only [stLt]; omega), rfl⟩
    | exact ⟨dec_f (by simp only [stLt]; omega), rfl⟩
    | exact ⟨dec_b (by simp only [stLt]; omega), rfl⟩
theorem s_StampLess (t a u b : Int) : CallD Try.prog id_spec_StampLess [vSt t a, vSt u b] [] (vB (decide (stLt t a u b))) [] := by
  refine F_spec_StampLess ?_
  try (conv => whnf)
  repeat' (first
    | (refine br_dec (fun _ => ?_) (fun _ => ?_) <;> first | (exfalso; omega) | contradiction | conv => whnf)
    | (refine br_not ?_; conv => whnf)
    | (refine br_bne (fun _ => ?_) (fun _ => ?_) <;> first | (exfalso; omega) | contradiction | conv => whnf)
    | (refine br_beq (fun _ => ?_) (fun _ => ?_) <;> first | (exfalso; omega) | contradiction | conv => whnf))
  all_goals
    refine Out.mk true [] [] ?_
    try (conv => whnf)
  all_goals first
    | exact ⟨dec_t (by simp only [stLt]; omega), rfl⟩
    | exact ⟨dec_f (by simp only [stLt]; omega), rfl⟩
    | exact ⟨dec_b (by simp only [stLt]; omega), rfl⟩
theorem s_l02None (t a : Int) : CallD Try.prog id_spec_l02None [vSt t a] [] (vB (decide (noSt t a))) [] := by
  refine F_spec_l02None ?_
  try (conv => whnf)
  repeat' (first
    | (refine br_dec (fun _ => ?_) (fun _ => ?_) <;> first | (exfalso; omega) | contradiction | conv => whnf)
    | (refine br_not ?_; conv => whnf)
    | (refine br_bne (fun _ => ?_) (fun _ => ?_) <;> first | (exfalso; omega) | contradiction | conv => whnf)
    | (refine br_beq (fun _ => ?_) (fun _ => ?_) <;> first | (exfalso; omega) | contradiction | conv => whnf))
  all_goals
    refine Out.mk true [] [] ?_
    try (conv => whnf)
  all_goals first
    | exact ⟨dec_t (by omega), rfl⟩
    | exact ⟨dec_f (by omega), rfl⟩
    | exact ⟨by rw [show (a == 0) = decide (noSt t a) from by by_cases h : a = 0 <;> simp [*]], rfl⟩
theorem i_charOK (n : Int) : CallD Try.prog id_impl_charOK [vI .i64 n] [] (vB (decide (chOk n))) [] := by
  refine F_impl_charOK ?_
  try (conv => whnf)
  repeat' (first
    | (refine br_dec (fun _ => ?_) (fun _ => ?_) <;> first | (exfalso; omega) | contradiction | conv => whnf)
    | (refine br_not ?_; conv => whnf)
    | (refine br_bne (fun _ => ?_) (fun _ => ?_) <;> first | (exfalso; omega) | contradiction | conv => whnf)
    | (refine br_beq (fun _ => ?_) (fun _ => ?_) <;> first | (exfalso; omega) | contradiction | conv => whnf))
  all_goals
    refine Out.mk true [] [] ?_
    try (conv => whnf)
  all_goals first
    | exact ⟨dec_t (by simp only [chOk]; omega), rfl⟩
    | exact ⟨dec_f (by simp only [chOk]; omega), rfl⟩
    | exact ⟨dec_b (by simp only [chOk]; omega), rfl⟩
theorem s_l04Char (n : Int) : CallD Try.prog id_spec_l04Char [vI .i64 n] [] (vB (decide (chOk n))) [] := by
  refine F_spec_l04Char ?_
  try (conv => whnf)
  repeat' (first
    | (refine br_dec (fun _ => ?_) (fun _ => ?_) <;> first | (exfalso; omega) | contradiction | conv => whnf)
    | (refine br_not ?_; conv => whnf)
    | (refine br_bne (fun _ => ?_) (fun _ => ?_) <;> first | (exfalso; omega) | contradiction | conv => whnf)
    | (refine br_beq (fun _ => ?_) (fun _ => ?_) <;> first | (exfalso; omega) | contradiction | conv => whnf))
  all_goals
    refine Out.mk true [] [] ?_
    try (conv => whnf)
  all_goals first
    | exact ⟨dec_t (by simp only [chOk]; omega), rfl⟩
    | exact ⟨dec_f (by simp only [chOk]; omega), rfl⟩
    | exact ⟨dec_b (by simp only [chOk]; omega), rfl⟩
theorem i_stamp (o : OpV) : CallD Try.prog id_impl_Op_stamp [vO o] [] (vSt o.time o.actor) [] := by
  refine F_impl_Op_stamp ?_
  try (conv => whnf)
  refine Out.mk true [] [] ?_
  try (conv => whnf)
  exact ⟨rfl, rfl⟩
theorem s_l08Stamp (o : OpV) : CallD Try.prog id_spec_l08Stamp [vO o] [] (vSt o.time o.actor) [] := by
  refine F_spec_l08Stamp ?_
  try (conv => whnf)
  refine Out.mk true [] [] ?_
  try (conv => whnf)
  exact ⟨rfl, rfl⟩
end Go.Proofs.Ytpdjehnlejjfmaa.D
/- Operations told to be in order, by both. -/
namespace Go.Proofs.Ytpdjehnlejjfmaa.D
open Go.RowKit
set_option maxRecDepth 100000
set_option maxHeartbeats 4000000
set_option linter.unusedVariables false
set_option linter.unusedSimpArgs false

theorem own_at {o : OpV} (h : VecOk o.deps) (ha : actOk o.actor) : ∃ hlt : o.actor.toNat < o.deps.length, o.deps.getD o.actor.toNat 0 = o.deps[o.actor.toNat] := by
  have := h.1
  refine ⟨by omega, ?_⟩
  simp [List.getD, show o.actor.toNat < o.deps.length by omega]
theorem i_opOK (o : OpV) (hk : o.key.length ≤ 2 ^ 40) (ht : o.text.length ≤ 2 ^ 40) : CallD Try.prog id_impl_opOK [vO o] [] (vB (decide (OpOk o))) [] := by
  refine F_impl_opOK ?_
  try (conv => whnf)
  repeat (refine SeqJ.thru ?_; conv => whnf)
  refine Hand.mk [] ?_
  try (conv => whnf)
  refine CallW.d (i_stamp o) ?_
  try (conv => whnf)
  refine Hand.mk [] ?_
  try (conv => whnf)
  refine CallW.d (i_StampOK o.time o.actor) ?_
  try (conv => whnf)
  by_cases hst : stOk o.time o.actor
  · obtain ⟨⟨t1, t2⟩, a1, a2⟩ := id hst
    by_cases hv : VecOk o.deps
    · have hvl := hv.1
      obtain ⟨hlt, hown⟩ := own_at hv ⟨a1, a2⟩
      try (conv => whnf)
      repeat' (first
        | (refine br_dec (fun _ => ?_) (fun _ => ?_) <;> first | (exfalso; omega) | contradiction | conv => whnf)
        | (refine br_not ?_; conv => whnf)
        | (refine br_bne (fun _ => ?_) (fun _ => ?_) <;> first | (exfalso; omega) | contradiction | conv => whnf)
        | (refine br_beq (fun _ => ?_) (fun _ => ?_) <;> first | (exfalso; omega) | contradiction | conv => whnf))
      rotate_left 2
      · refine Hand.mk [] ?_
        try (conv => whnf)
        refine CallW.d (i_VecOK o.deps) ?_
        try (conv => whnf)
        try (conv => whnf)
        repeat' (first
          | (refine Pick.mk ?_ ?_ ?_; rotate_left; (focus (first | exact size_bs _ | (refine wid ?_ ?_ <;> omega) | (refine pick_int _ _ _ ?_ ?_ <;> omega))); conv => whnf)
          | (refine SeqJ.thru ?_; conv => whnf)
          | (refine br_dec (fun _ => ?_) (fun _ => ?_) <;> first | (exfalso; omega) | contradiction | conv => whnf)
          | (refine br_not ?_; conv => whnf)
          | (refine br_bne (fun _ => ?_) (fun _ => ?_) <;> first | (exfalso; omega) | contradiction | conv => whnf)
          | (refine br_beq (fun _ => ?_) (fun _ => ?_) <;> first | (exfalso; omega) | contradiction | conv => whnf))
        rotate_right 2
        · by_cases hz : noSt o.atT o.atA
          · have hb : (o.atT == 0 && o.atA == 0) = true := by simp [hz.1, hz.2]
            refine br_true hb ?_
            have hP : kindOk o → OpOk o := fun hk => ⟨hst, by omega, hv, by omega, by omega, by omega, by omega, by omega, .inl hz, hk⟩
            have hN : ¬ kindOk o → ¬ OpOk o := fun h g => h g.kind
            try (conv => whnf)
            repeat' (first
              | (refine Need.mk ?_ ?_; (focus (((conv => whnf); (repeat (first | (refine Need.mk (by first | rfl | omega | (simp; done)) ?_; conv => whnf) | (refine Pick.mk ?_ ?_ ?_; rotate_left; (focus (first | with_reducible exact xor_u8 _ _ | (with_reducible refine xor_i64 ?_ ?_; all_goals omega) | (with_reducible refine xor_u32 ?_ ?_; all_goals omega) | assumption | with_reducible exact set_byN _ _ _ _ | with_reducible exact set_byI _ _ _ _ | with_reducible exact set_inN _ _ _ _ | with_reducible exact set_inI _ _ _ _ | with_reducible exact set_stN _ _ _ _ | with_reducible exact set_tsN _ _ _ _ | with_reducible exact set_tsI _ _ _ _ | with_reducible exact set_boN _ _ _ _ | with_reducible exact set_boI _ _ _ _ | (with_reducible refine get_mapN _ _ _ ?_; first | omega | (simp; omega)) | (with_reducible refine get_mapI _ _ _ ?_ ?_ <;> first | omega | (simp; omega)) | exact bs_beq _ _ | exact bs_less _ _ | exact bs_leq _ _ | with_reducible exact bs_app _ _ | (refine bs_get _ _ ?_; omega) | (refine bs_int _ _ ?_ ?_ <;> omega) | with_reducible exact sl_map0 _ _ _ | with_reducible exact sl_mapN _ _ _ | with_reducible exact sl_map _ _ _ _ | exact bs_extract0 _ _ | exact bs_extractN _ _ | exact bs_extract _ _ _ | (refine bnd_id ?_; omega) | (refine bnd_sub ?_ ?_ <;> omega) | (refine bnd_add ?_; omega) | (refine bnd_subN ?_ ?_ <;> omega) | (refine bnd_int ?_ ?_ <;> omega) | ((show @Eq Nat (_ + Int.toNat _ * _) _); simp only [Int.toNat_natCast, Nat.zero_add, Nat.mul_one]; rfl) | ((show @Eq (List _) (List.set [_] _ _) _); simp only [List.set_cons_zero]; rfl) | exact List.length_map _ | exact size_bs _ | (simp only [List.length_map, List.length_append, List.length_cons, List.length_nil, List.length_replicate, Nat.zero_add]; rfl) | with_reducible exact List.nil_append _ | with_reducible exact map_app _ _ _ | exact map_snoc byD _ _ | exact map_snoc inD _ _ | exact map_snoc stD _ _ | exact map_snoc tsD _ _ | (simp only [chunks]; rfl) | (refine wid ?_ ?_ <;> omega) | exact wby _ | with_reducible exact wby32 _ | with_reducible exact wu32 _ | exact wby64 _ | exact shr8 _ | exact shr16 _ | exact shr24 _ | exact shr32 _ | (refine tmodn ?_; omega) | (refine wdiv ?_ ?_ ?_ <;> omega) | exact wbyte _ | exact natlit _ | exact rep_by _ | exact rep_in _ | exact rep_bo _ | exact rep_st _ | (refine pick_nat _ _ _ ?_; omega) | (refine pick_int _ _ _ ?_ ?_ <;> omega) | (refine SlOf.full ?_; first | (simp; done) | (simp; omega)) | (with_reducible refine SlOf.pre _ _ ?_; first | omega | (simp; omega)) | (refine SlF.self _ _ ?_ ?_; (first | rfl | omega | (simp; done) | (simp; omega)); (exact fun _ => rfl)) | (refine SlF.pre _ _ ?_ ?_; (first | omega | (simp; omega)); (exact fun _ => rfl)) | (refine SlF.same ?_ ?_; (first | rfl | omega | (simp; done) | (simp; omega)); (first | exact fz_self _ _ (fun _ => rfl) | exact fz_pl rfl | (refine Fz.append ?_ ?_ <;> first | exact fz_self _ _ (fun _ => rfl) | exact fz_pl rfl) | (refine Fz.append (Fz.append ?_ ?_) ?_ <;> first | exact fz_self _ _ (fun _ => rfl) | exact fz_pl rfl))) | (simp only [Int.toNat_natCast, Nat.zero_add, Nat.mul_one]; rfl) | ((fail_if_success (show @Eq (Option _) _ _)); rfl) | ((show @Eq (Option _) _ _); simp only [List.getElem?_cons_zero, List.getElem?_cons_succ]; done) | ((show @Eq (Option _) _ _); simp only [List.getElem?_cons_zero, List.getElem?_cons_succ]; rfl) | with_reducible rfl)); conv => whnf))); exact Done.mk trivial))); conv => whnf)
              | (refine Pick.mk ?_ ?_ ?_; rotate_left; (focus (exact bs_beq _ _)); conv => whnf)
              | (refine br_dec (fun _ => ?_) (fun _ => ?_) <;> first | contradiction | conv => whnf)
              | (refine br_not ?_; conv => whnf)
              | (refine br_bne (fun _ => ?_) (fun _ => ?_) <;> first | contradiction | conv => whnf)
              | (refine br_beq (fun _ => ?_) (fun _ => ?_) <;> first | contradiction | conv => whnf))
            all_goals
              first
                | skip
                  refine Out.mk true [] [] ?_
                  try (conv => whnf)
                  try rw [hb]
                  first
                    | exact ⟨dec_t (hP (by first | exact .inl ⟨by assumption, by assumption, hz⟩ | exact .inr (.inr (.inl ⟨by assumption, ⟨by assumption, by assumption⟩, by assumption, hz⟩)) | exact .inr (.inr (.inr ⟨by assumption, ⟨by assumption, by assumption⟩, hz⟩)))), rfl⟩
                    | exact ⟨dec_f (hN (by rintro (⟨k1, k2, k3⟩ | ⟨k1, ⟨k2, k4⟩, k3⟩ | ⟨k1, ⟨k2, k4⟩, k3, k5⟩ | ⟨k1, ⟨k2, k4⟩, k3⟩) <;> first | contradiction | omega)), rfl⟩
                | skip
                  refine Hand.mk [] ?_
                  try (conv => whnf)
                  refine CallW.d (i_charOK o.n) ?_
                  try (conv => whnf)
                  refine Out.mk true [] [] ?_
                  try (conv => whnf)
                  exact ⟨dec_b ⟨fun h => hP (.inr (.inl ⟨by assumption, ⟨by assumption, by assumption⟩, h⟩)), fun h => by
                    rcases h.kind with ⟨k1, k2, k3⟩ | ⟨k1, ⟨k2, k4⟩, k3⟩ | ⟨k1, ⟨k2, k4⟩, k3, k5⟩ | ⟨k1, ⟨k2, k4⟩, k3⟩ <;> first | exact k3 | omega⟩, rfl⟩
          · have hb : (o.atT == 0 && o.atA == 0) = false := by
              cases h : (o.atT == 0 && o.atA == 0) with
              | false => rfl
              | true => simp at h; exact absurd h hz
            refine br_false hb ?_
            by_cases hs2 : stOk o.atT o.atA
            · by_cases hsl : stLt o.atT o.atA o.time o.actor
              · try (conv => whnf)
                refine Hand.mk [] ?_
                try (conv => whnf)
                refine CallW.d (i_StampOK o.atT o.atA) ?_
                try (conv => whnf)
                try (conv => whnf)
                repeat' (first
                  | (refine br_dec (fun _ => ?_) (fun _ => ?_) <;> first | contradiction | conv => whnf)
                  | (refine br_not ?_; conv => whnf)
                  | (refine br_bne (fun _ => ?_) (fun _ => ?_) <;> first | contradiction | conv => whnf)
                  | (refine br_beq (fun _ => ?_) (fun _ => ?_) <;> first | contradiction | conv => whnf))
                refine Hand.mk [] ?_
                try (conv => whnf)
                refine CallW.d (i_stamp o) ?_
                try (conv => whnf)
                repeat (refine Need.mk ?_ ?_; (focus (((conv => whnf); (repeat (first | (refine Need.mk (by first | rfl | omega | (simp; done)) ?_; conv => whnf) | (refine Pick.mk ?_ ?_ ?_; rotate_left; (focus (first | with_reducible exact xor_u8 _ _ | (with_reducible refine xor_i64 ?_ ?_; all_goals omega) | (with_reducible refine xor_u32 ?_ ?_; all_goals omega) | assumption | with_reducible exact set_byN _ _ _ _ | with_reducible exact set_byI _ _ _ _ | with_reducible exact set_inN _ _ _ _ | with_reducible exact set_inI _ _ _ _ | with_reducible exact set_stN _ _ _ _ | with_reducible exact set_tsN _ _ _ _ | with_reducible exact set_tsI _ _ _ _ | with_reducible exact set_boN _ _ _ _ | with_reducible exact set_boI _ _ _ _ | (with_reducible refine get_mapN _ _ _ ?_; first | omega | (simp; omega)) | (with_reducible refine get_mapI _ _ _ ?_ ?_ <;> first | omega | (simp; omega)) | exact bs_beq _ _ | exact bs_less _ _ | exact bs_leq _ _ | with_reducible exact bs_app _ _ | (refine bs_get _ _ ?_; omega) | (refine bs_int _ _ ?_ ?_ <;> omega) | with_reducible exact sl_map0 _ _ _ | with_reducible exact sl_mapN _ _ _ | with_reducible exact sl_map _ _ _ _ | exact bs_extract0 _ _ | exact bs_extractN _ _ | exact bs_extract _ _ _ | (refine bnd_id ?_; omega) | (refine bnd_sub ?_ ?_ <;> omega) | (refine bnd_add ?_; omega) | (refine bnd_subN ?_ ?_ <;> omega) | (refine bnd_int ?_ ?_ <;> omega) | ((show @Eq Nat (_ + Int.toNat _ * _) _); simp only [Int.toNat_natCast, Nat.zero_add, Nat.mul_one]; rfl) | ((show @Eq (List _) (List.set [_] _ _) _); simp only [List.set_cons_zero]; rfl) | exact List.length_map _ | exact size_bs _ | (simp only [List.length_map, List.length_append, List.length_cons, List.length_nil, List.length_replicate, Nat.zero_add]; rfl) | with_reducible exact List.nil_append _ | with_reducible exact map_app _ _ _ | exact map_snoc byD _ _ | exact map_snoc inD _ _ | exact map_snoc stD _ _ | exact map_snoc tsD _ _ | (simp only [chunks]; rfl) | (refine wid ?_ ?_ <;> omega) | exact wby _ | with_reducible exact wby32 _ | with_reducible exact wu32 _ | exact wby64 _ | exact shr8 _ | exact shr16 _ | exact shr24 _ | exact shr32 _ | (refine tmodn ?_; omega) | (refine wdiv ?_ ?_ ?_ <;> omega) | exact wbyte _ | exact natlit _ | exact rep_by _ | exact rep_in _ | exact rep_bo _ | exact rep_st _ | (refine pick_nat _ _ _ ?_; omega) | (refine pick_int _ _ _ ?_ ?_ <;> omega) | (refine SlOf.full ?_; first | (simp; done) | (simp; omega)) | (with_reducible refine SlOf.pre _ _ ?_; first | omega | (simp; omega)) | (refine SlF.self _ _ ?_ ?_; (first | rfl | omega | (simp; done) | (simp; omega)); (exact fun _ => rfl)) | (refine SlF.pre _ _ ?_ ?_; (first | omega | (simp; omega)); (exact fun _ => rfl)) | (refine SlF.same ?_ ?_; (first | rfl | omega | (simp; done) | (simp; omega)); (first | exact fz_self _ _ (fun _ => rfl) | exact fz_pl rfl | (refine Fz.append ?_ ?_ <;> first | exact fz_self _ _ (fun _ => rfl) | exact fz_pl rfl) | (refine Fz.append (Fz.append ?_ ?_) ?_ <;> first | exact fz_self _ _ (fun _ => rfl) | exact fz_pl rfl))) | (simp only [Int.toNat_natCast, Nat.zero_add, Nat.mul_one]; rfl) | ((fail_if_success (show @Eq (Option _) _ _)); rfl) | ((show @Eq (Option _) _ _); simp only [List.getElem?_cons_zero, List.getElem?_cons_succ]; done) | ((show @Eq (Option _) _ _); simp only [List.getElem?_cons_zero, List.getElem?_cons_succ]; rfl) | with_reducible rfl)); conv => whnf))); exact Done.mk trivial))); conv => whnf)
                refine Hand.mk [] ?_
                try (conv => whnf)
                refine CallW.d (i_StampLess o.atT o.atA o.time o.actor) ?_
                try (conv => whnf)
                have hP : kindOk o → OpOk o := fun hk => ⟨hst, by omega, hv, by omega, by omega, by omega, by omega, by omega, .inr ⟨hs2, hsl⟩, hk⟩
                have hN : ¬ kindOk o → ¬ OpOk o := fun h g => h g.kind
                try (conv => whnf)
                repeat' (first
                  | (refine Pick.mk ?_ ?_ ?_; rotate_left; (focus (exact bs_beq _ _)); conv => whnf)
                  | (refine br_dec (fun _ => ?_) (fun _ => ?_) <;> first | contradiction | conv => whnf)
                  | (refine br_not ?_; conv => whnf)
                  | (refine br_bne (fun _ => ?_) (fun _ => ?_) <;> first | contradiction | conv => whnf)
                  | (refine br_beq (fun _ => ?_) (fun _ => ?_) <;> first | contradiction | conv => whnf))
                all_goals
                  first
                    | skip
                      refine Out.mk true [] [] ?_
                      try (conv => whnf)
                      try rw [hb]
                      first
                        | exact ⟨dec_t (hP (by first | exact .inl ⟨by assumption, by assumption, hz⟩ | exact .inr (.inr (.inl ⟨by assumption, ⟨by assumption, by assumption⟩, by assumption, hz⟩)) | exact .inr (.inr (.inr ⟨by assumption, ⟨by assumption, by assumption⟩, hz⟩)))), rfl⟩
                        | exact ⟨dec_f (hN (by rintro (⟨k1, k2, k3⟩ | ⟨k1, ⟨k2, k4⟩, k3⟩ | ⟨k1, ⟨k2, k4⟩, k3, k5⟩ | ⟨k1, ⟨k2, k4⟩, k3⟩) <;> first | contradiction | omega)), rfl⟩
                    | skip
                      refine Hand.mk [] ?_
                      try (conv => whnf)
                      refine CallW.d (i_charOK o.n) ?_
                      try (conv => whnf)
                      refine Out.mk true [] [] ?_
                      try (conv => whnf)
                      exact ⟨dec_b ⟨fun h => hP (.inr (.inl ⟨by assumption, ⟨by assumption, by assumption⟩, h⟩)), fun h => by
                        rcases h.kind with ⟨k1, k2, k3⟩ | ⟨k1, ⟨k2, k4⟩, k3⟩ | ⟨k1, ⟨k2, k4⟩, k3, k5⟩ | ⟨k1, ⟨k2, k4⟩, k3⟩ <;> first | exact k3 | omega⟩, rfl⟩
              · try (conv => whnf)
                refine Hand.mk [] ?_
                try (conv => whnf)
                refine CallW.d (i_StampOK o.atT o.atA) ?_
                try (conv => whnf)
                try (conv => whnf)
                repeat' (first
                  | (refine br_dec (fun _ => ?_) (fun _ => ?_) <;> first | contradiction | conv => whnf)
                  | (refine br_not ?_; conv => whnf)
                  | (refine br_bne (fun _ => ?_) (fun _ => ?_) <;> first | contradiction | conv => whnf)
                  | (refine br_beq (fun _ => ?_) (fun _ => ?_) <;> first | contradiction | conv => whnf))
                refine Hand.mk [] ?_
                try (conv => whnf)
                refine CallW.d (i_stamp o) ?_
                try (conv => whnf)
                repeat (refine Need.mk ?_ ?_; (focus (((conv => whnf); (repeat (first | (refine Need.mk (by first | rfl | omega | (simp; done)) ?_; conv => whnf) | (refine Pick.mk ?_ ?_ ?_; rotate_left; (focus (first | with_reducible exact xor_u8 _ _ | (with_reducible refine xor_i64 ?_ ?_; all_goals omega) | (with_reducible refine xor_u32 ?_ ?_; all_goals omega) | assumption | with_reducible exact set_byN _ _ _ _ | with_reducible exact set_byI _ _ _ _ | with_reducible exact set_inN _ _ _ _ | with_reducible exact set_inI _ _ _ _ | with_reducible exact set_stN _ _ _ _ | with_reducible exact set_tsN _ _ _ _ | with_reducible exact set_tsI _ _ _ _ | with_reducible exact set_boN _ _ _ _ | with_reducible exact set_boI _ _ _ _ | (with_reducible refine get_mapN _ _ _ ?_; first | omega | (simp; omega)) | (with_reducible refine get_mapI _ _ _ ?_ ?_ <;> first | omega | (simp; omega)) | exact bs_beq _ _ | exact bs_less _ _ | exact bs_leq _ _ | with_reducible exact bs_app _ _ | (refine bs_get _ _ ?_; omega) | (refine bs_int _ _ ?_ ?_ <;> omega) | with_reducible exact sl_map0 _ _ _ | with_reducible exact sl_mapN _ _ _ | with_reducible exact sl_map _ _ _ _ | exact bs_extract0 _ _ | exact bs_extractN _ _ | exact bs_extract _ _ _ | (refine bnd_id ?_; omega) | (refine bnd_sub ?_ ?_ <;> omega) | (refine bnd_add ?_; omega) | (refine bnd_subN ?_ ?_ <;> omega) | (refine bnd_int ?_ ?_ <;> omega) | ((show @Eq Nat (_ + Int.toNat _ * _) _); simp only [Int.toNat_natCast, Nat.zero_add, Nat.mul_one]; rfl) | ((show @Eq (List _) (List.set [_] _ _) _); simp only [List.set_cons_zero]; rfl) | exact List.length_map _ | exact size_bs _ | (simp only [List.length_map, List.length_append, List.length_cons, List.length_nil, List.length_replicate, Nat.zero_add]; rfl) | with_reducible exact List.nil_append _ | with_reducible exact map_app _ _ _ | exact map_snoc byD _ _ | exact map_snoc inD _ _ | exact map_snoc stD _ _ | exact map_snoc tsD _ _ | (simp only [chunks]; rfl) | (refine wid ?_ ?_ <;> omega) | exact wby _ | with_reducible exact wby32 _ | with_reducible exact wu32 _ | exact wby64 _ | exact shr8 _ | exact shr16 _ | exact shr24 _ | exact shr32 _ | (refine tmodn ?_; omega) | (refine wdiv ?_ ?_ ?_ <;> omega) | exact wbyte _ | exact natlit _ | exact rep_by _ | exact rep_in _ | exact rep_bo _ | exact rep_st _ | (refine pick_nat _ _ _ ?_; omega) | (refine pick_int _ _ _ ?_ ?_ <;> omega) | (refine SlOf.full ?_; first | (simp; done) | (simp; omega)) | (with_reducible refine SlOf.pre _ _ ?_; first | omega | (simp; omega)) | (refine SlF.self _ _ ?_ ?_; (first | rfl | omega | (simp; done) | (simp; omega)); (exact fun _ => rfl)) | (refine SlF.pre _ _ ?_ ?_; (first | omega | (simp; omega)); (exact fun _ => rfl)) | (refine SlF.same ?_ ?_; (first | rfl | omega | (simp; done) | (simp; omega)); (first | exact fz_self _ _ (fun _ => rfl) | exact fz_pl rfl | (refine Fz.append ?_ ?_ <;> first | exact fz_self _ _ (fun _ => rfl) | exact fz_pl rfl) | (refine Fz.append (Fz.append ?_ ?_) ?_ <;> first | exact fz_self _ _ (fun _ => rfl) | exact fz_pl rfl))) | (simp only [Int.toNat_natCast, Nat.zero_add, Nat.mul_one]; rfl) | ((fail_if_success (show @Eq (Option _) _ _)); rfl) | ((show @Eq (Option _) _ _); simp only [List.getElem?_cons_zero, List.getElem?_cons_succ]; done) | ((show @Eq (Option _) _ _); simp only [List.getElem?_cons_zero, List.getElem?_cons_succ]; rfl) | with_reducible rfl)); conv => whnf))); exact Done.mk trivial))); conv => whnf)
                refine Hand.mk [] ?_
                try (conv => whnf)
                refine CallW.d (i_StampLess o.atT o.atA o.time o.actor) ?_
                try (conv => whnf)
                try (conv => whnf)
                repeat' (first
                  | (refine br_dec (fun _ => ?_) (fun _ => ?_) <;> first | contradiction | conv => whnf)
                  | (refine br_not ?_; conv => whnf)
                  | (refine br_bne (fun _ => ?_) (fun _ => ?_) <;> first | contradiction | conv => whnf)
                  | (refine br_beq (fun _ => ?_) (fun _ => ?_) <;> first | contradiction | conv => whnf))
                refine Out.mk true [] [] ?_
                try (conv => whnf)
                exact ⟨dec_f (fun h => by
                  obtain ⟨h1, h2, h3, h4, h5, h6, h7, h8, h9, h10⟩ := h
                  first | contradiction | omega | (rcases h9 with h9 | ⟨h9, h9'⟩ <;> contradiction)), rfl⟩
            · try (conv => whnf)
              refine Hand.mk [] ?_
              try (conv => whnf)
              refine CallW.d (i_StampOK o.atT o.atA) ?_
              try (conv => whnf)
              try (conv => whnf)
              repeat' (first
                | (refine Need.mk ?_ ?_; (focus (((conv => whnf); (repeat (first | (refine Need.mk (by first | rfl | omega | (simp; done)) ?_; conv => whnf) | (refine Pick.mk ?_ ?_ ?_; rotate_left; (focus (first | with_reducible exact xor_u8 _ _ | (with_reducible refine xor_i64 ?_ ?_; all_goals omega) | (with_reducible refine xor_u32 ?_ ?_; all_goals omega) | assumption | with_reducible exact set_byN _ _ _ _ | with_reducible exact set_byI _ _ _ _ | with_reducible exact set_inN _ _ _ _ | with_reducible exact set_inI _ _ _ _ | with_reducible exact set_stN _ _ _ _ | with_reducible exact set_tsN _ _ _ _ | with_reducible exact set_tsI _ _ _ _ | with_reducible exact set_boN _ _ _ _ | with_reducible exact set_boI _ _ _ _ | (with_reducible refine get_mapN _ _ _ ?_; first | omega | (simp; omega)) | (with_reducible refine get_mapI _ _ _ ?_ ?_ <;> first | omega | (simp; omega)) | exact bs_beq _ _ | exact bs_less _ _ | exact bs_leq _ _ | with_reducible exact bs_app _ _ | (refine bs_get _ _ ?_; omega) | (refine bs_int _ _ ?_ ?_ <;> omega) | with_reducible exact sl_map0 _ _ _ | with_reducible exact sl_mapN _ _ _ | with_reducible exact sl_map _ _ _ _ | exact bs_extract0 _ _ | exact bs_extractN _ _ | exact bs_extract _ _ _ | (refine bnd_id ?_; omega) | (refine bnd_sub ?_ ?_ <;> omega) | (refine bnd_add ?_; omega) | (refine bnd_subN ?_ ?_ <;> omega) | (refine bnd_int ?_ ?_ <;> omega) | ((show @Eq Nat (_ + Int.toNat _ * _) _); simp only [Int.toNat_natCast, Nat.zero_add, Nat.mul_one]; rfl) | ((show @Eq (List _) (List.set [_] _ _) _); simp only [List.set_cons_zero]; rfl) | exact List.length_map _ | exact size_bs _ | (simp only [List.length_map, List.length_append, List.length_cons, List.length_nil, List.length_replicate, Nat.zero_add]; rfl) | with_reducible exact List.nil_append _ | with_reducible exact map_app _ _ _ | exact map_snoc byD _ _ | exact map_snoc inD _ _ | exact map_snoc stD _ _ | exact map_snoc tsD _ _ | (simp only [chunks]; rfl) | (refine wid ?_ ?_ <;> omega) | exact wby _ | with_reducible exact wby32 _ | with_reducible exact wu32 _ | exact wby64 _ | exact shr8 _ | exact shr16 _ | exact shr24 _ | exact shr32 _ | (refine tmodn ?_; omega) | (refine wdiv ?_ ?_ ?_ <;> omega) | exact wbyte _ | exact natlit _ | exact rep_by _ | exact rep_in _ | exact rep_bo _ | exact rep_st _ | (refine pick_nat _ _ _ ?_; omega) | (refine pick_int _ _ _ ?_ ?_ <;> omega) | (refine SlOf.full ?_; first | (simp; done) | (simp; omega)) | (with_reducible refine SlOf.pre _ _ ?_; first | omega | (simp; omega)) | (refine SlF.self _ _ ?_ ?_; (first | rfl | omega | (simp; done) | (simp; omega)); (exact fun _ => rfl)) | (refine SlF.pre _ _ ?_ ?_; (first | omega | (simp; omega)); (exact fun _ => rfl)) | (refine SlF.same ?_ ?_; (first | rfl | omega | (simp; done) | (simp; omega)); (first | exact fz_self _ _ (fun _ => rfl) | exact fz_pl rfl | (refine Fz.append ?_ ?_ <;> first | exact fz_self _ _ (fun _ => rfl) | exact fz_pl rfl) | (refine Fz.append (Fz.append ?_ ?_) ?_ <;> first | exact fz_self _ _ (fun _ => rfl) | exact fz_pl rfl))) | (simp only [Int.toNat_natCast, Nat.zero_add, Nat.mul_one]; rfl) | ((fail_if_success (show @Eq (Option _) _ _)); rfl) | ((show @Eq (Option _) _ _); simp only [List.getElem?_cons_zero, List.getElem?_cons_succ]; done) | ((show @Eq (Option _) _ _); simp only [List.getElem?_cons_zero, List.getElem?_cons_succ]; rfl) | with_reducible rfl)); conv => whnf))); exact Done.mk trivial))); conv => whnf)
                | (refine br_dec (fun _ => ?_) (fun _ => ?_) <;> first | contradiction | conv => whnf)
                | (refine br_not ?_; conv => whnf)
                | (refine br_bne (fun _ => ?_) (fun _ => ?_) <;> first | contradiction | conv => whnf)
                | (refine br_beq (fun _ => ?_) (fun _ => ?_) <;> first | contradiction | conv => whnf))
              refine Out.mk true [] [] ?_
              try (conv => whnf)
              exact ⟨dec_f (fun h => by
                obtain ⟨h1, h2, h3, h4, h5, h6, h7, h8, h9, h10⟩ := h
                first | contradiction | omega | (rcases h9 with h9 | ⟨h9, h9'⟩ <;> contradiction)), rfl⟩
        all_goals
          refine Out.mk true [] [] ?_
          try (conv => whnf)
        all_goals
          exact ⟨dec_f (fun h => by
            obtain ⟨h1, h2, h3, h4, h5, h6, h7, h8, h9, h10⟩ := h
            first | contradiction | omega | (rcases h9 with h9 | ⟨h9, h9'⟩ <;> contradiction)), rfl⟩
      all_goals
        refine Out.mk true [] [] ?_
        try (conv => whnf)
      all_goals
        exact ⟨dec_f (fun h => by
          obtain ⟨h1, h2, h3, h4, h5, h6, h7, h8, h9, h10⟩ := h
          first | contradiction | omega | (rcases h9 with h9 | ⟨h9, h9'⟩ <;> contradiction)), rfl⟩
    · try (conv => whnf)
      repeat' (first
        | (refine br_dec (fun _ => ?_) (fun _ => ?_) <;> first | (exfalso; omega) | contradiction | conv => whnf)
        | (refine br_not ?_; conv => whnf)
        | (refine br_bne (fun _ => ?_) (fun _ => ?_) <;> first | (exfalso; omega) | contradiction | conv => whnf)
        | (refine br_beq (fun _ => ?_) (fun _ => ?_) <;> first | (exfalso; omega) | contradiction | conv => whnf))
      rotate_left 2
      · refine Hand.mk [] ?_
        try (conv => whnf)
        refine CallW.d (i_VecOK o.deps) ?_
        try (conv => whnf)
        try (conv => whnf)
        repeat' (first
          | (refine br_dec (fun _ => ?_) (fun _ => ?_) <;> first | (exfalso; omega) | contradiction | conv => whnf)
          | (refine br_not ?_; conv => whnf)
          | (refine br_bne (fun _ => ?_) (fun _ => ?_) <;> first | (exfalso; omega) | contradiction | conv => whnf)
          | (refine br_beq (fun _ => ?_) (fun _ => ?_) <;> first | (exfalso; omega) | contradiction | conv => whnf))
        refine Out.mk true [] [] ?_
        try (conv => whnf)
        exact ⟨dec_f (fun h => by
          obtain ⟨h1, h2, h3, h4, h5, h6, h7, h8, h9, h10⟩ := h
          first | contradiction | omega | (rcases h9 with h9 | ⟨h9, h9'⟩ <;> contradiction)), rfl⟩
      all_goals
        refine Out.mk true [] [] ?_
        try (conv => whnf)
      all_goals
        exact ⟨dec_f (fun h => by
          obtain ⟨h1, h2, h3, h4, h5, h6, h7, h8, h9, h10⟩ := h
          first | contradiction | omega | (rcases h9 with h9 | ⟨h9, h9'⟩ <;> contradiction)), rfl⟩
  · try (conv => whnf)
    repeat' (first
      | (refine br_dec (fun _ => ?_) (fun _ => ?_) <;> first | (exfalso; omega) | contradiction | conv => whnf)
      | (refine br_not ?_; conv => whnf)
      | (refine br_bne (fun _ => ?_) (fun _ => ?_) <;> first | (exfalso; omega) | contradiction | conv => whnf)
      | (refine br_beq (fun _ => ?_) (fun _ => ?_) <;> first | (exfalso; omega) | contradiction | conv => whnf))
    refine Out.mk true [] [] ?_
    try (conv => whnf)
    exact ⟨dec_f (fun h => by
      obtain ⟨h1, h2, h3, h4, h5, h6, h7, h8, h9, h10⟩ := h
      first | contradiction | omega | (rcases h9 with h9 | ⟨h9, h9'⟩ <;> contradiction)), rfl⟩
theorem s_l08OpOK (o : OpV) (hk : o.key.length ≤ 2 ^ 40) (ht : o.text.length ≤ 2 ^ 40) : CallD Try.prog id_spec_l08OpOK [vO o] [] (vB (decide (OpOk o))) [] := by
  refine F_spec_l08OpOK ?_
  try (conv => whnf)
  refine Hand.mk [] ?_
  try (conv => whnf)
  refine CallW.d (s_l08Stamp o) ?_
  try (conv => whnf)
  repeat (refine SeqJ.thru ?_; conv => whnf)
  refine Hand.mk [] ?_
  try (conv => whnf)
  refine CallW.d (s_StampOK o.time o.actor) ?_
  try (conv => whnf)
  by_cases hst : stOk o.time o.actor
  · obtain ⟨⟨t1, t2⟩, a1, a2⟩ := id hst
    by_cases hv : VecOk o.deps
    · have hvl := hv.1
      obtain ⟨hlt, hown⟩ := own_at hv ⟨a1, a2⟩
      try (conv => whnf)
      repeat' (first
        | (refine br_dec (fun _ => ?_) (fun _ => ?_) <;> first | (exfalso; omega) | contradiction | conv => whnf)
        | (refine br_not ?_; conv => whnf)
        | (refine br_bne (fun _ => ?_) (fun _ => ?_) <;> first | (exfalso; omega) | contradiction | conv => whnf)
        | (refine br_beq (fun _ => ?_) (fun _ => ?_) <;> first | (exfalso; omega) | contradiction | conv => whnf))
      rotate_left 2
      · refine Hand.mk [] ?_
        try (conv => whnf)
        refine CallW.d (s_VecOK o.deps) ?_
        try (conv => whnf)
        try (conv => whnf)
        repeat' (first
          | (refine Pick.mk ?_ ?_ ?_; rotate_left; (focus (first | exact size_bs _ | (refine wid ?_ ?_ <;> omega) | (refine pick_int _ _ _ ?_ ?_ <;> omega))); conv => whnf)
          | (refine SeqJ.thru ?_; conv => whnf)
          | (refine br_dec (fun _ => ?_) (fun _ => ?_) <;> first | (exfalso; omega) | contradiction | conv => whnf)
          | (refine br_not ?_; conv => whnf)
          | (refine br_bne (fun _ => ?_) (fun _ => ?_) <;> first | (exfalso; omega) | contradiction | conv => whnf)
          | (refine br_beq (fun _ => ?_) (fun _ => ?_) <;> first | (exfalso; omega) | contradiction | conv => whnf))
        all_goals
          first
            | skip
              refine Out.mk true [] [] ?_
              try (conv => whnf)
              exact ⟨dec_f (fun h => by
                obtain ⟨h1, h2, h3, h4, h5, h6, h7, h8, h9, h10⟩ := h
                first | contradiction | omega | (rcases h9 with h9 | ⟨h9, h9'⟩ <;> contradiction)), rfl⟩
            | skip
        by_cases hz : noSt o.atT o.atA
        · refine Hand.mk [] ?_
          try (conv => whnf)
          refine CallW.d (s_l02None o.atT o.atA) ?_
          try (conv => whnf)
          have hP : kindOk o → OpOk o := fun hk => ⟨hst, by omega, hv, by omega, by omega, by omega, by omega, by omega, .inl hz, hk⟩
          have hN : ¬ kindOk o → ¬ OpOk o := fun h g => h g.kind
          try (conv => whnf)
          repeat' (first
            | (refine Pick.mk ?_ ?_ ?_; rotate_left; (focus (exact bs_beq _ _)); conv => whnf)
            | (refine br_dec (fun _ => ?_) (fun _ => ?_) <;> first | contradiction | conv => whnf)
            | (refine br_not ?_; conv => whnf)
            | (refine br_bne (fun _ => ?_) (fun _ => ?_) <;> first | contradiction | conv => whnf)
            | (refine br_beq (fun _ => ?_) (fun _ => ?_) <;> first | contradiction | conv => whnf))
          all_goals
            first
              | skip
                refine Out.mk true [] [] ?_
                try (conv => whnf)
                first
                  | exact ⟨dec_t (hP (by first | exact .inl ⟨by assumption, by assumption, hz⟩ | exact .inr (.inr (.inl ⟨by assumption, ⟨by assumption, by assumption⟩, by assumption, hz⟩)) | exact .inr (.inr (.inr ⟨by assumption, ⟨by assumption, by assumption⟩, hz⟩)))), rfl⟩
                  | exact ⟨dec_f (hN (by rintro (⟨k1, k2, k3⟩ | ⟨k1, ⟨k2, k4⟩, k3⟩ | ⟨k1, ⟨k2, k4⟩, k3, k5⟩ | ⟨k1, ⟨k2, k4⟩, k3⟩) <;> first | contradiction | omega)), rfl⟩
              | skip
                refine Hand.mk [] ?_
                try (conv => whnf)
                refine CallW.d (s_l04Char o.n) ?_
                try (conv => whnf)
                refine Out.mk true [] [] ?_
                try (conv => whnf)
                exact ⟨dec_b ⟨fun h => hP (.inr (.inl ⟨by assumption, ⟨by assumption, by assumption⟩, h⟩)), fun h => by
                  rcases h.kind with ⟨k1, k2, k3⟩ | ⟨k1, ⟨k2, k4⟩, k3⟩ | ⟨k1, ⟨k2, k4⟩, k3, k5⟩ | ⟨k1, ⟨k2, k4⟩, k3⟩ <;> first | exact k3 | omega⟩, rfl⟩
              | skip
                refine Hand.mk [] ?_
                try (conv => whnf)
                refine CallW.d (s_l02None o.atT o.atA) ?_
                try (conv => whnf)
                refine Out.mk true [] [] ?_
                try (conv => whnf)
                first
                  | rw [show (!decide (noSt o.atT o.atA)) = false from by rw [decide_eq_true hz]; rfl]
                  | rw [show (!decide (noSt o.atT o.atA)) = true from by rw [decide_eq_false hz]; rfl]
                  | rw [show decide (noSt o.atT o.atA) = true from decide_eq_true hz]
                  | rw [show decide (noSt o.atT o.atA) = false from decide_eq_false hz]
                first
                  | exact ⟨dec_t (hP (by first | exact .inl ⟨by assumption, by assumption, hz⟩ | exact .inr (.inr (.inl ⟨by assumption, ⟨by assumption, by assumption⟩, by assumption, hz⟩)) | exact .inr (.inr (.inr ⟨by assumption, ⟨by assumption, by assumption⟩, hz⟩)))), rfl⟩
                  | exact ⟨dec_f (hN (by rintro (⟨k1, k2, k3⟩ | ⟨k1, ⟨k2, k4⟩, k3⟩ | ⟨k1, ⟨k2, k4⟩, k3, k5⟩ | ⟨k1, ⟨k2, k4⟩, k3⟩) <;> first | contradiction | omega)), rfl⟩
        · by_cases hs2 : stOk o.atT o.atA
          · by_cases hsl : stLt o.atT o.atA o.time o.actor
            · refine Hand.mk [] ?_
              try (conv => whnf)
              refine CallW.d (s_l02None o.atT o.atA) ?_
              try (conv => whnf)
              try (conv => whnf)
              repeat' (first
                | (refine br_dec (fun _ => ?_) (fun _ => ?_) <;> first | contradiction | conv => whnf)
                | (refine br_not ?_; conv => whnf)
                | (refine br_bne (fun _ => ?_) (fun _ => ?_) <;> first | contradiction | conv => whnf)
                | (refine br_beq (fun _ => ?_) (fun _ => ?_) <;> first | contradiction | conv => whnf))
              refine Hand.mk [] ?_
              try (conv => whnf)
              refine CallW.d (s_StampOK o.atT o.atA) ?_
              try (conv => whnf)
              try (conv => whnf)
              repeat' (first
                | (refine br_dec (fun _ => ?_) (fun _ => ?_) <;> first | contradiction | conv => whnf)
                | (refine br_not ?_; conv => whnf)
                | (refine br_bne (fun _ => ?_) (fun _ => ?_) <;> first | contradiction | conv => whnf)
                | (refine br_beq (fun _ => ?_) (fun _ => ?_) <;> first | contradiction | conv => whnf))
              refine Hand.mk [] ?_
              try (conv => whnf)
              refine CallW.d (s_StampLess o.atT o.atA o.time o.actor) ?_
              try (conv => whnf)
              have hP : kindOk o → OpOk o := fun hk => ⟨hst, by omega, hv, by omega, by omega, by omega, by omega, by omega, .inr ⟨hs2, hsl⟩, hk⟩
              have hN : ¬ kindOk o → ¬ OpOk o := fun h g => h g.kind
              try (conv => whnf)
              repeat' (first
                | (refine Pick.mk ?_ ?_ ?_; rotate_left; (focus (exact bs_beq _ _)); conv => whnf)
                | (refine br_dec (fun _ => ?_) (fun _ => ?_) <;> first | contradiction | conv => whnf)
                | (refine br_not ?_; conv => whnf)
                | (refine br_bne (fun _ => ?_) (fun _ => ?_) <;> first | contradiction | conv => whnf)
                | (refine br_beq (fun _ => ?_) (fun _ => ?_) <;> first | contradiction | conv => whnf))
              all_goals
                first
                  | skip
                    refine Out.mk true [] [] ?_
                    try (conv => whnf)
                    first
                      | exact ⟨dec_t (hP (by first | exact .inl ⟨by assumption, by assumption, hz⟩ | exact .inr (.inr (.inl ⟨by assumption, ⟨by assumption, by assumption⟩, by assumption, hz⟩)) | exact .inr (.inr (.inr ⟨by assumption, ⟨by assumption, by assumption⟩, hz⟩)))), rfl⟩
                      | exact ⟨dec_f (hN (by rintro (⟨k1, k2, k3⟩ | ⟨k1, ⟨k2, k4⟩, k3⟩ | ⟨k1, ⟨k2, k4⟩, k3, k5⟩ | ⟨k1, ⟨k2, k4⟩, k3⟩) <;> first | contradiction | omega)), rfl⟩
                  | skip
                    refine Hand.mk [] ?_
                    try (conv => whnf)
                    refine CallW.d (s_l04Char o.n) ?_
                    try (conv => whnf)
                    refine Out.mk true [] [] ?_
                    try (conv => whnf)
                    exact ⟨dec_b ⟨fun h => hP (.inr (.inl ⟨by assumption, ⟨by assumption, by assumption⟩, h⟩)), fun h => by
                      rcases h.kind with ⟨k1, k2, k3⟩ | ⟨k1, ⟨k2, k4⟩, k3⟩ | ⟨k1, ⟨k2, k4⟩, k3, k5⟩ | ⟨k1, ⟨k2, k4⟩, k3⟩ <;> first | exact k3 | omega⟩, rfl⟩
                  | skip
                    refine Hand.mk [] ?_
                    try (conv => whnf)
                    refine CallW.d (s_l02None o.atT o.atA) ?_
                    try (conv => whnf)
                    refine Out.mk true [] [] ?_
                    try (conv => whnf)
                    first
                      | rw [show (!decide (noSt o.atT o.atA)) = false from by rw [decide_eq_true hz]; rfl]
                      | rw [show (!decide (noSt o.atT o.atA)) = true from by rw [decide_eq_false hz]; rfl]
                      | rw [show decide (noSt o.atT o.atA) = true from decide_eq_true hz]
                      | rw [show decide (noSt o.atT o.atA) = false from decide_eq_false hz]
                    first
                      | exact ⟨dec_t (hP (by first | exact .inl ⟨by assumption, by assumption, hz⟩ | exact .inr (.inr (.inl ⟨by assumption, ⟨by assumption, by assumption⟩, by assumption, hz⟩)) | exact .inr (.inr (.inr ⟨by assumption, ⟨by assumption, by assumption⟩, hz⟩)))), rfl⟩
                      | exact ⟨dec_f (hN (by rintro (⟨k1, k2, k3⟩ | ⟨k1, ⟨k2, k4⟩, k3⟩ | ⟨k1, ⟨k2, k4⟩, k3, k5⟩ | ⟨k1, ⟨k2, k4⟩, k3⟩) <;> first | contradiction | omega)), rfl⟩
            · refine Hand.mk [] ?_
              try (conv => whnf)
              refine CallW.d (s_l02None o.atT o.atA) ?_
              try (conv => whnf)
              try (conv => whnf)
              repeat' (first
                | (refine br_dec (fun _ => ?_) (fun _ => ?_) <;> first | contradiction | conv => whnf)
                | (refine br_not ?_; conv => whnf)
                | (refine br_bne (fun _ => ?_) (fun _ => ?_) <;> first | contradiction | conv => whnf)
                | (refine br_beq (fun _ => ?_) (fun _ => ?_) <;> first | contradiction | conv => whnf))
              refine Hand.mk [] ?_
              try (conv => whnf)
              refine CallW.d (s_StampOK o.atT o.atA) ?_
              try (conv => whnf)
              try (conv => whnf)
              repeat' (first
                | (refine br_dec (fun _ => ?_) (fun _ => ?_) <;> first | contradiction | conv => whnf)
                | (refine br_not ?_; conv => whnf)
                | (refine br_bne (fun _ => ?_) (fun _ => ?_) <;> first | contradiction | conv => whnf)
                | (refine br_beq (fun _ => ?_) (fun _ => ?_) <;> first | contradiction | conv => whnf))
              refine Hand.mk [] ?_
              try (conv => whnf)
              refine CallW.d (s_StampLess o.atT o.atA o.time o.actor) ?_
              try (conv => whnf)
              try (conv => whnf)
              repeat' (first
                | (refine br_dec (fun _ => ?_) (fun _ => ?_) <;> first | contradiction | conv => whnf)
                | (refine br_not ?_; conv => whnf)
                | (refine br_bne (fun _ => ?_) (fun _ => ?_) <;> first | contradiction | conv => whnf)
                | (refine br_beq (fun _ => ?_) (fun _ => ?_) <;> first | contradiction | conv => whnf))
              refine Out.mk true [] [] ?_
              try (conv => whnf)
              exact ⟨dec_f (fun h => by
                obtain ⟨h1, h2, h3, h4, h5, h6, h7, h8, h9, h10⟩ := h
                first | contradiction | omega | (rcases h9 with h9 | ⟨h9, h9'⟩ <;> contradiction)), rfl⟩
          · refine Hand.mk [] ?_
            try (conv => whnf)
            refine CallW.d (s_l02None o.atT o.atA) ?_
            try (conv => whnf)
            try (conv => whnf)
            repeat' (first
              | (refine br_dec (fun _ => ?_) (fun _ => ?_) <;> first | contradiction | conv => whnf)
              | (refine br_not ?_; conv => whnf)
              | (refine br_bne (fun _ => ?_) (fun _ => ?_) <;> first | contradiction | conv => whnf)
              | (refine br_beq (fun _ => ?_) (fun _ => ?_) <;> first | contradiction | conv => whnf))
            refine Hand.mk [] ?_
            try (conv => whnf)
            refine CallW.d (s_StampOK o.atT o.atA) ?_
            try (conv => whnf)
            try (conv => whnf)
            repeat' (first
              | (refine br_dec (fun _ => ?_) (fun _ => ?_) <;> first | contradiction | conv => whnf)
              | (refine br_not ?_; conv => whnf)
              | (refine br_bne (fun _ => ?_) (fun _ => ?_) <;> first | contradiction | conv => whnf)
              | (refine br_beq (fun _ => ?_) (fun _ => ?_) <;> first | contradiction | conv => whnf))
            refine Out.mk true [] [] ?_
            try (conv => whnf)
            exact ⟨dec_f (fun h => by
              obtain ⟨h1, h2, h3, h4, h5, h6, h7, h8, h9, h10⟩ := h
              first | contradiction | omega | (rcases h9 with h9 | ⟨h9, h9'⟩ <;> contradiction)), rfl⟩
      all_goals
        refine Out.mk true [] [] ?_
        try (conv => whnf)
      all_goals
        exact ⟨dec_f (fun h => by
          obtain ⟨h1, h2, h3, h4, h5, h6, h7, h8, h9, h10⟩ := h
          first | contradiction | omega | (rcases h9 with h9 | ⟨h9, h9'⟩ <;> contradiction)), rfl⟩
    · try (conv => whnf)
      repeat' (first
        | (refine br_dec (fun _ => ?_) (fun _ => ?_) <;> first | (exfalso; omega) | contradiction | conv => whnf)
        | (refine br_not ?_; conv => whnf)
        | (refine br_bne (fun _ => ?_) (fun _ => ?_) <;> first | (exfalso; omega) | contradiction | conv => whnf)
        | (refine br_beq (fun _ => ?_) (fun _ => ?_) <;> first | (exfalso; omega) | contradiction | conv => whnf))
      rotate_left 2
      · refine Hand.mk [] ?_
        try (conv => whnf)
        refine CallW.d (s_VecOK o.deps) ?_
        try (conv => whnf)
        try (conv => whnf)
        repeat' (first
          | (refine br_dec (fun _ => ?_) (fun _ => ?_) <;> first | (exfalso; omega) | contradiction | conv => whnf)
          | (refine br_not ?_; conv => whnf)
          | (refine br_bne (fun _ => ?_) (fun _ => ?_) <;> first | (exfalso; omega) | contradiction | conv => whnf)
          | (refine br_beq (fun _ => ?_) (fun _ => ?_) <;> first | (exfalso; omega) | contradiction | conv => whnf))
        refine Out.mk true [] [] ?_
        try (conv => whnf)
        exact ⟨dec_f (fun h => by
          obtain ⟨h1, h2, h3, h4, h5, h6, h7, h8, h9, h10⟩ := h
          first | contradiction | omega | (rcases h9 with h9 | ⟨h9, h9'⟩ <;> contradiction)), rfl⟩
      all_goals
        refine Out.mk true [] [] ?_
        try (conv => whnf)
      all_goals
        exact ⟨dec_f (fun h => by
          obtain ⟨h1, h2, h3, h4, h5, h6, h7, h8, h9, h10⟩ := h
          first | contradiction | omega | (rcases h9 with h9 | ⟨h9, h9'⟩ <;> contradiction)), rfl⟩
  · try (conv => whnf)
    repeat' (first
      | (refine br_dec (fun _ => ?_) (fun _ => ?_) <;> first | (exfalso; omega) | contradiction | conv => whnf)
      | (refine br_not ?_; conv => whnf)
      | (refine br_bne (fun _ => ?_) (fun _ => ?_) <;> first | (exfalso; omega) | contradiction | conv => whnf)
      | (refine br_beq (fun _ => ?_) (fun _ => ?_) <;> first | (exfalso; omega) | contradiction | conv => whnf))
    refine Out.mk true [] [] ?_
    try (conv => whnf)
    exact ⟨dec_f (fun h => by
      obtain ⟨h1, h2, h3, h4, h5, h6, h7, h8, h9, h10⟩ := h
      first | contradiction | omega | (rcases h9 with h9 | ⟨h9, h9'⟩ <;> contradiction)), rfl⟩
end Go.Proofs.Ytpdjehnlejjfmaa.D
/- The sums of bytes under a key, by the reference: what each function gives back. -/
namespace Go.Proofs.Ytpdjehnlejjfmaa.D
open Go.RowKit
set_option maxRecDepth 100000
set_option linter.unusedVariables false
set_option linter.unusedSimpArgs false

/-- Four bytes of a number. -/
def four (v : Int) : List UInt8 := [u8 (v / 16777216), u8 (v / 65536), u8 (v / 256), u8 v]
@[simp] theorem four_length (v : Int) : (four v).length = 4 := rfl
def stepH (h : Nat) (c : UInt8) : Nat := (h ^^^ c.toNat) * 16777619 % 4294967296
def sumH (h : Nat) (l : List UInt8) : Nat := l.foldl stepH h
theorem sumH_lt {h : Nat} (hh : h < 4294967296) : ∀ l : List UInt8, sumH h l < 4294967296 := by
  intro l
  induction l generalizing h with
  | nil => exact hh
  | cons c l ih => exact ih (Nat.mod_lt _ (by omega))

theorem s_l01Four (v : Int) (h0 : 0 ≤ v) (h1 : v < 2 ^ 62) : CallD Try.prog id_spec_l01Four [vI .i64 v] [] (.one (.os (.v 0) 1 0 4)) [.own 1 ((four v).map byD)] := by
  refine F_spec_l01Four ?_
  try (conv => whnf)
  repeat (first
    | (refine Need.mk ?_ ?_; (focus (omega)); conv => whnf)
    | (refine Pick.mk ?_ ?_ ?_; rotate_left; (focus (first | (simp only [chunks]; rfl) | (refine tmodn ?_; omega) | (refine wdiv ?_ ?_ ?_ <;> omega) | exact wbyte _)); conv => whnf))
  refine Out.mk false [0, 1, 2, 3, 4] [] ?_
  try (conv => whnf)
  repeat (refine Need.mk ?_ ?_; (focus ((first | exact flat_by _ | exact flat_in _ | exact flat_st _ | exact flat_ts _ | exact flat_bo _ | exact flat_cl rfl))); conv => whnf)
  exact ⟨rfl, by simp [chunks, four, u8_mod]⟩
/-- Eight bytes of a number. -/
def eight (n : Int) : List UInt8 := four (n / 4294967296) ++ four (n % 4294967296)
@[simp] theorem eight_length (v : Int) : (eight v).length = 8 := rfl
theorem sumH_take {h : Nat} {l : List UInt8} {i : Nat} (hi : i < l.length) : sumH h (l.take (i + 1)) = stepH (sumH h (l.take i)) l[i] := by
  unfold sumH; rw [List.take_succ_eq_append_getElem hi, List.foldl_append, List.foldl_cons, List.foldl_nil]
theorem s_Sum32 (l : List UInt8) (hl : l.length ≤ 1048576) : CallD Try.prog id_spec_Sum32 [vY l] [] (vI .i64 (sumH 2166136261 l)) [] := by
  refine F_spec_Sum32 ?_
  try (conv => whnf)
  repeat (first
    | (refine Pick.mk ?_ ?_ ?_; rotate_left; (focus (exact List.length_map _)); conv => whnf)
    | (refine SeqJ.thru ?_; conv => whnf))
  refine br_false (decide_eq_false (by simp; omega)) ?_
  try (conv => whnf)
  refine LoopE.mk (fun i : Nat => mk [(0, vY l), (3, vI .i64 (sumH 2166136261 (l.take i))), (4, vI .i64 i)] []) (fun i => i ≤ l.length) (fun i => l.length - i) 0 (by omega) (LeX.of ?_) ?_
  · try (conv => whnf)
    repeat (refine Need.mk ?_ ?_; (focus (first | omega | (simp; done) | rfl)); conv => whnf)
    trivial
  · intro i hi
    try (conv => whnf)
    repeat (first
      | (refine Pick.mk ?_ ?_ ?_; rotate_left; (focus (exact List.length_map _)); conv => whnf)
      | (refine SeqJ.thru ?_; conv => whnf))
    refine br_dec (fun h => ?_) (fun h => ?_)
    · simp at h
      have h1 := sumH_lt (h := 2166136261) (by omega) (l.take i)
      have h2 := l[i].toNat_lt
      have h3 : sumH 2166136261 (l.take i) ^^^ l[i].toNat < 2 ^ 32 := Nat.xor_lt_two_pow (by omega) (by omega)
      try (conv => whnf)
      repeat (first
        | (refine Need.mk ?_ ?_; (focus (omega)); conv => whnf)
        | (refine Pick.mk ?_ ?_ ?_; rotate_left; (focus (first | (with_reducible refine xor_i64 ?_ ?_; all_goals omega) | (refine wid ?_ ?_ <;> omega) | (refine tmodn ?_; omega) | (refine pick_nat _ _ _ ?_; omega))); conv => whnf)
        | (refine SeqJ.thru ?_; conv => whnf))
      refine Pick.mk (i + 1) (by omega) (LeX.of ?_)
      have h4 := sumH_take (h := 2166136261) h
      simp only [stepH] at h4
      try (conv => whnf)
      repeat (refine Need.mk ?_ ?_; (focus (first | omega | (simp; done))); conv => whnf)
      trivial
    · simp at h
      try (conv => whnf)
      refine Out.mk true [] [] ?_
      try (conv => whnf)
      rw [List.take_of_length_le (by omega)]
      exact ⟨rfl, rfl⟩
/-- The sum of bytes under a key. -/
def ksum (key b : List UInt8) : List UInt8 := four (sumH 2166136261 (key ++ b ++ key)) ++ four (sumH 2166136261 (four (sumH 2166136261 (key ++ b ++ key)) ++ key ++ b))
@[simp] theorem ksum_length (key b : List UInt8) : (ksum key b).length = 8 := rfl
def blk (key : List UInt8) (n i : Int) : List UInt8 := ksum key (eight n ++ eight i)
/-- Bytes under the stream of a key and a number. -/
def mask (key : List UInt8) (n : Int) (l : List UInt8) : List UInt8 := l.mapIdx fun i c => c ^^^ (blk key n (i / 8 : Nat)).getD (i % 8) 0
@[simp] theorem mask_length (key : List UInt8) (n : Int) (l : List UInt8) : (mask key n l).length = l.length := by simp [mask]
theorem mask_take {key : List UInt8} {n : Int} {l : List UInt8} {i : Nat} (hi : i < l.length) : (mask key n l).take (i + 1) = (mask key n l).take i ++ [l[i] ^^^ (blk key n (i / 8 : Nat)).getD (i % 8) 0] := by
  rw [List.take_succ_eq_append_getElem (by simpa using hi)]; simp [mask]
end Go.Proofs.Ytpdjehnlejjfmaa.D
/- The sums of bytes under a key, by the program: what each function gives back. -/
namespace Go.Proofs.Ytpdjehnlejjfmaa.D
open Go.RowKit
set_option maxRecDepth 100000
set_option linter.unusedVariables false
set_option linter.unusedSimpArgs false

theorem i_append4_nil (v : Int) (h0 : 0 ≤ v) (h1 : v < 2 ^ 62) : CallD Try.prog id_impl_append4 [.one .nil, vI .i64 v] [] (.one (.os (.v 0) 1 0 4)) [.own 1 ((four v).map byD)] := by
  refine F_impl_append4 ?_
  try (conv => whnf)
  repeat (first
    | (refine Need.mk ?_ ?_; (focus (first | omega | rfl)); conv => whnf)
    | (refine Pick.mk ?_ ?_ ?_; rotate_left; (focus (first | (simp only [List.length_map, List.length_append, List.length_cons, List.length_nil, List.length_replicate, Nat.zero_add]; rfl) | (simp only [chunks]; rfl) | exact shr8 _ | exact shr16 _ | exact shr24 _ | exact wbyte _ | (refine SlOf.full ?_; first | (simp; done) | (simp; omega)))); conv => whnf))
  refine Out.mk false [0, 1, 2, 3, 4] [] ?_
  try (conv => whnf)
  repeat (refine Need.mk ?_ ?_; (focus ((first | exact flat_by _ | exact flat_in _ | exact flat_st _ | exact flat_ts _ | exact flat_bo _ | exact flat_cl rfl))); conv => whnf)
  exact ⟨rfl, by simp [four]⟩
theorem i_append4 (l : List UInt8) (n : Nat) (v : Int) (hn : n = l.length) (hl : n ≤ 1000) (h0 : 0 ≤ v) (h1 : v < 2 ^ 62) : CallMD Try.prog id_impl_append4 [.one (.os (.v 0) 1 0 n), vI .i64 v] [.own 1 (l.map byD)] [0] (.one (.os (.v 0) 1 0 (n + 4))) [.own 1 ((l ++ four v).map byD)] := by
  refine F_impl_append4 ?_
  try (conv => whnf)
  repeat (first
    | (refine Need.mk ?_ ?_; (focus (first | omega | rfl)); conv => whnf)
    | (refine Pick.mk ?_ ?_ ?_; rotate_left; (focus (first | (simp only [List.length_map, List.length_append, List.length_cons, List.length_nil, List.length_replicate, Nat.zero_add]; rfl) | (simp only [chunks]; rfl) | exact shr8 _ | exact shr16 _ | exact shr24 _ | exact wbyte _ | (refine SlOf.full ?_; first | (simp; done) | (simp; omega)) | ((fail_if_success (show @Eq (Option _) _ _)); rfl))); conv => whnf))
  refine Out.mk false [0, 1, 2, 3, 4] [] ?_
  try (conv => whnf)
  repeat (refine Need.mk ?_ ?_; (focus ((refine flat_app ?_ ?_ <;> (first | exact flat_by _ | exact flat_in _ | exact flat_st _ | exact flat_ts _ | exact flat_bo _ | exact flat_cl rfl)))); conv => whnf)
  exact ⟨rfl, by simp [four]⟩
theorem four_hi (v : Int) (h0 : 0 ≤ v) : four (v / 4294967296) ++ four v = eight v := by
  simp only [eight, four, u8]
  have : ∀ a b : Int, a % 256 = b % 256 → UInt8.ofNat (a % 256).toNat = UInt8.ofNat (b % 256).toNat := fun a b h => by rw [h]
  congr 1
  simp only [List.cons.injEq, and_true]
  exact ⟨this _ _ (by omega), this _ _ (by omega), this _ _ (by omega), this _ _ (by omega)⟩
theorem i_sumOn (h : Nat) (l : List UInt8) (hh : h < 4294967296) (hl : l.length ≤ 2 ^ 40) : CallD Try.prog id_impl_sumOn [vI .u32 h, vY l] [] (vI .u32 (sumH h l)) [] := by
  refine F_impl_sumOn ?_
  try (conv => whnf)
  repeat (refine Pick.mk ?_ ?_ ?_; rotate_left; (focus (exact List.length_map _)); conv => whnf)
  refine LoopE.mk (fun i : Nat => mk [(7, vY l), (8, vI .i64 l.length), (0, vI .u32 (sumH h (l.take i))), (9, vI .i64 i)] []) (fun i => i ≤ l.length) (fun i => l.length - i) 0 (by omega) (LeX.of ?_) ?_
  · try (conv => whnf)
    repeat (refine Need.mk ?_ ?_; (focus (first | omega | (simp; done) | rfl)); conv => whnf)
    trivial
  · intro i hi
    try (conv => whnf)
    repeat (refine SeqJ.thru ?_; conv => whnf)
    refine br_dec (fun h9 => ?_) (fun h9 => ?_)
    · simp at h9
      have h1 := sumH_lt hh (l.take i)
      have h2 := l[i].toNat_lt
      have h3 : sumH h (l.take i) ^^^ l[i].toNat < 2 ^ 32 := Nat.xor_lt_two_pow (by omega) (by omega)
      try (conv => whnf)
      repeat (first
        | (refine Pick.mk ?_ ?_ ?_; rotate_left; (focus (first | (with_reducible refine xor_u32 ?_ ?_; all_goals omega) | (refine wid ?_ ?_ <;> omega) | with_reducible exact wby32 _ | with_reducible exact wu32 _ | (refine pick_nat _ _ _ ?_; omega))); conv => whnf)
        | (refine SeqJ.thru ?_; conv => whnf))
      have h4 := sumH_take (h := h) h9
      simp only [stepH] at h4
      refine Pick.mk (i + 1) (by constructor <;> first | omega | (simp only []; omega)) (LeX.of ?_)
      try (conv => whnf)
      repeat (refine Need.mk ?_ ?_; (focus (first | omega | (simp; done))); conv => whnf)
      trivial
    · simp at h9
      try (conv => whnf)
      refine Out.mk true [] [] ?_
      try (conv => whnf)
      rw [List.take_of_length_le (by omega)]
      exact ⟨rfl, rfl⟩
end Go.Proofs.Ytpdjehnlejjfmaa.D
/- Numbers and texts as bytes: what the functions of both give back. -/
namespace Go.Proofs.Ytpdjehnlejjfmaa.D
open Go.RowKit
set_option maxRecDepth 100000
set_option linter.unusedVariables false
set_option linter.unusedSimpArgs false

theorem put_byte (v : Nat) (h : v < 128) : put v = [u8 v] := put_lt h
theorem divN (v k : Nat) : (v : Int) / (@OfNat.ofNat Int k instOfNat) = ((v / k : Nat) : Int) := by
  show (v : Int) / ((k : Nat) : Int) = _
  omega
theorem s_l01Put : ∀ v : Nat, v < 2 ^ 63 → CallD Try.prog id_spec_l01Put [vI .i64 v] [] (.one (.os (.v 0) 1 0 (put v).length)) [.own 1 ((put v).map byD)] := by
  intro v
  induction v using Nat.strongRecOn with
  | _ v ih =>
    intro hv
    have hl := put_len hv
    refine F_spec_l01Put ?_
    try (conv => whnf)
    repeat' (first
      | (refine Need.mk ?_ ?_; (focus (omega)); conv => whnf)
      | (refine Pick.mk ?_ ?_ ?_; rotate_left; (focus (first | (simp only [chunks]; rfl) | (refine wid ?_ ?_ <;> omega) | (refine tmodn ?_; omega) | (refine wdiv ?_ ?_ ?_ <;> omega) | exact wbyte _)); conv => whnf)
      | (refine SeqJ.thru ?_; conv => whnf)
      | (refine br_dec (fun _ => ?_) (fun _ => ?_) <;> first | (exfalso; omega) | contradiction | conv => whnf)
      | (refine br_not ?_; conv => whnf)
      | (refine br_bne (fun _ => ?_) (fun _ => ?_) <;> first | (exfalso; omega) | contradiction | conv => whnf)
      | (refine br_beq (fun _ => ?_) (fun _ => ?_) <;> first | (exfalso; omega) | contradiction | conv => whnf))
    · refine Out.mk false [0, 1, 2, 3, 4] [] ?_
      try (conv => whnf)
      repeat (refine Need.mk ?_ ?_; (focus ((first | exact flat_by _ | exact flat_in _ | exact flat_st _ | exact flat_ts _ | exact flat_bo _ | exact flat_cl rfl))); conv => whnf)
      rw [put_lt (by omega)]
      exact ⟨rfl, rfl⟩
    · have hl' := put_len (n := v / 128) (by omega)
      rw [divN]
      refine Hand.mk [] ?_
      try (conv => whnf)
      refine CallW.d (ih (v / 128) (by omega) (by omega)) ?_
      try (conv => whnf)
      repeat (first
        | (refine Need.mk ?_ ?_; (focus (first | omega | (first | exact fz_self _ _ (fun _ => rfl) | exact fz_pl rfl | (refine Fz.append ?_ ?_ <;> first | exact fz_self _ _ (fun _ => rfl) | exact fz_pl rfl) | (refine Fz.append (Fz.append ?_ ?_) ?_ <;> first | exact fz_self _ _ (fun _ => rfl) | exact fz_pl rfl)))); conv => whnf)
        | (refine Pick.mk ?_ ?_ ?_; rotate_left; (focus (first | (simp only [List.length_map, List.length_append, List.length_cons, List.length_nil, List.length_replicate, Nat.zero_add]; rfl) | (refine SlOf.full ?_; first | (simp; done) | (simp; omega)) | ((fail_if_success (show @Eq (Option _) _ _)); rfl))); conv => whnf))
      refine Out.mk false [0, 1, 2, 3, 4] [] ?_
      try (conv => whnf)
      repeat (refine Need.mk ?_ ?_; (focus ((refine flat_app ?_ ?_ <;> (first | exact flat_by _ | exact flat_in _ | exact flat_st _ | exact flat_ts _ | exact flat_bo _ | exact flat_cl rfl)))); conv => whnf)
      rw [put_ge (by omega)]
      have e : (128 : Int) + (v : Int) % 128 = ((128 + v % 128 : Nat) : Int) := by omega
      rw [e]
      exact ⟨by simp; omega, by simp⟩
theorem or_u8 (a : Nat) (h : a < 128) : bits .or .u8 ((u8 (a : Int)).toNat : Int) 128 = ((u8 ((128 + a : Nat) : Int)).toNat : Int) := by
  rw [u8_nat (by omega), u8_nat (by omega)]
  show IntKind.u8.wrap (((BitVec.ofInt 8 (a : Int) ||| BitVec.ofInt 8 ((128 : Nat) : Int)).toNat : Nat) : Int) = _
  rw [bv_or 8 (by omega) (by omega), wu8]
  have : a ||| 128 = 128 + a := by
    have := Nat.shiftLeft_add_eq_or_of_lt (show a < 2 ^ 7 by omega) 1
    rw [Nat.or_comm]; simpa using this.symm
  rw [this]; omega
theorem and127 (v : Nat) (h : v < 2 ^ 63) : bits .and .i64 (v : Int) 127 = ((v % 128 : Nat) : Int) := by
  have := and_i64 (a := v) (b := 127) (by omega) (by omega)
  have e : v &&& 127 = v % 128 := Nat.and_two_pow_sub_one_eq_mod v 7
  rw [e] at this; exact this
theorem shr7 (v : Nat) : (v : Int).fdiv (2 ^ (min (7 : Int).toNat (IntKind.i64).bits)) = ((v / 128 : Nat) : Int) := by
  show (v : Int).fdiv 128 = _
  rw [Int.fdiv_eq_ediv_of_nonneg _ (by omega)]; omega
/-- The groups ahead of a number's last ones. -/
theorem put_shift (v : Nat) (h : 128 ≤ v) (l : List UInt8) : l ++ [u8 ((128 + v % 128 : Nat) : Int)] ++ put (v / 128) = l ++ put v := by
  rw [put_ge h]; simp
theorem i_appendInt (a : List UInt8) (n : Nat) (v : Nat) (hn : n = a.length) (ha : n ≤ 2 ^ 46) (hv : v < 2 ^ 63) :
    CallMD Try.prog id_impl_appendInt [.one (.os (.v 0) 1 0 n), vI .i64 v] [.own 1 (a.map byD)] [0] (.one (.os (.v 0) 1 0 (a ++ put v).length)) [.own 1 ((a ++ put v).map byD)] := by
  subst hn
  refine F_impl_appendInt ?_
  try (conv => whnf)
  repeat (refine SeqJ.thru ?_; conv => whnf)
  have hl := put_len hv
  refine LoopE.mk (fun (x : List UInt8 × Nat) => mk [(0, .one (.os (.v 0) 1 0 x.1.length)), (1, vI .i64 x.2)] [(0, .own 1 (x.1.map byD))] [0]) (fun x => x.1 ++ put x.2 = a ++ put v ∧ x.2 ≤ v ∧ x.1.length ≤ a.length + 10) (fun x => x.2) (a, v) (by simp; done) (LeX.of ?_) ?_
  · try (conv => whnf)
    repeat (refine Need.mk ?_ ?_; (focus (first | omega | (simp; done))); conv => whnf)
    trivial
  · rintro ⟨l, x⟩ ⟨h1, h2, h3⟩
    dsimp only at h1 h2 h3 ⊢
    have hx := put_len (n := x) (by omega)
    have hlen : l.length + (put x).length = a.length + (put v).length := by have := congrArg List.length h1; simpa using this
    have := put_pos x
    try (conv => whnf)
    repeat (refine SeqJ.thru ?_; conv => whnf)
    refine br_dec (fun h9 => ?_) (fun h9 => ?_)
    · try (conv => whnf)
      repeat (first
        | (refine Need.mk ?_ ?_; (focus (first | omega | rfl)); conv => whnf)
        | (refine Pick.mk ?_ ?_ ?_; rotate_left; (focus (first | with_reducible exact shr7 _ | (with_reducible refine or_u8 _ ?_; omega) | (with_reducible refine and127 _ ?_; omega) | (simp only [List.length_map, List.length_append, List.length_cons, List.length_nil, List.length_replicate, Nat.zero_add]; rfl) | exact map_snoc byD _ _ | (simp only [chunks]; rfl) | exact wbyte _ | (refine SlOf.full ?_; first | (simp; done) | (simp; omega)))); conv => whnf))
      refine Pick.mk (l ++ [u8 ((128 + x % 128 : Nat) : Int)], x / 128) ⟨⟨by rw [put_shift x (by omega)]; exact h1, by dsimp only; omega, ?_⟩, by dsimp only; omega⟩ (LeX.of ?_)
      · have e := put_shift x (by omega) l
        have := congrArg List.length e
        simp at this ⊢; omega
      · try (conv => whnf)
        repeat (refine Need.mk ?_ ?_; (focus (first | omega | (simp; done))); conv => whnf)
        trivial
    · try (conv => whnf)
      repeat (first
        | (refine Need.mk ?_ ?_; (focus (first | omega | rfl)); conv => whnf)
        | (refine Pick.mk ?_ ?_ ?_; rotate_left; (focus (first | (simp only [List.length_map, List.length_append, List.length_cons, List.length_nil, List.length_replicate, Nat.zero_add]; rfl) | exact map_snoc byD _ _ | (simp only [chunks]; rfl) | exact wbyte _ | (refine SlOf.full ?_; first | (simp; done) | (simp; omega)))); conv => whnf))
      refine Out.mk false [0, 1, 2, 3, 4] [] ?_
      try (conv => whnf)
      repeat (refine Need.mk ?_ ?_; (focus ((first | exact flat_by _ | exact flat_in _ | exact flat_st _ | exact flat_ts _ | exact flat_bo _ | exact flat_cl rfl))); conv => whnf)
      have e : a ++ put v = l ++ [u8 x] := by rw [← h1, put_lt (by omega)]
      skip
      rw [e]
      exact ⟨by simp, by simp⟩
theorem i_appendInt_nil (v : Nat) (hv : v < 2 ^ 63) :
    CallD Try.prog id_impl_appendInt [.one .nil, vI .i64 v] [] (.one (.os (.v 0) 1 0 (put v).length)) [.own 1 ((put v).map byD)] := by
  refine F_impl_appendInt ?_
  try (conv => whnf)
  repeat (refine SeqJ.thru ?_; conv => whnf)
  have hl := put_len hv
  refine LoopE.mk (fun (x : List UInt8 × Nat) => mk [(0, .one (.os (.v 5000) 1 0 x.1.length)), (1, vI .i64 x.2)] [(5000, .own 1 (x.1.map byD))] []) (fun x => x.1 ++ put x.2 = ([] : List UInt8) ++ put v ∧ x.2 ≤ v ∧ x.1.length ≤ 0 + 10) (fun x => x.2) (([] : List UInt8), v) (by simp; done) (LeX.of ?_) ?_
  · try (conv => whnf)
    repeat (refine Need.mk ?_ ?_; (focus (first | omega | (simp; done))); conv => whnf)
    trivial
  · rintro ⟨l, x⟩ ⟨h1, h2, h3⟩
    dsimp only at h1 h2 h3 ⊢
    have hx := put_len (n := x) (by omega)
    have hlen : l.length + (put x).length = 0 + (put v).length := by have := congrArg List.length h1; simpa using this
    have := put_pos x
    try (conv => whnf)
    repeat (refine SeqJ.thru ?_; conv => whnf)
    refine br_dec (fun h9 => ?_) (fun h9 => ?_)
    · try (conv => whnf)
      repeat (first
        | (refine Need.mk ?_ ?_; (focus (first | omega | rfl)); conv => whnf)
        | (refine Pick.mk ?_ ?_ ?_; rotate_left; (focus (first | with_reducible exact shr7 _ | (with_reducible refine or_u8 _ ?_; omega) | (with_reducible refine and127 _ ?_; omega) | (simp only [List.length_map, List.length_append, List.length_cons, List.length_nil, List.length_replicate, Nat.zero_add]; rfl) | exact map_snoc byD _ _ | (simp only [chunks]; rfl) | exact wbyte _ | (refine SlOf.full ?_; first | (simp; done) | (simp; omega)))); conv => whnf))
      refine Pick.mk (l ++ [u8 ((128 + x % 128 : Nat) : Int)], x / 128) ⟨⟨by rw [put_shift x (by omega)]; exact h1, by dsimp only; omega, ?_⟩, by dsimp only; omega⟩ (LeX.of ?_)
      · have e := put_shift x (by omega) l
        have := congrArg List.length e
        simp at this ⊢; omega
      · try (conv => whnf)
        repeat (refine Need.mk ?_ ?_; (focus (first | omega | (simp; done))); conv => whnf)
        trivial
    · try (conv => whnf)
      repeat (first
        | (refine Need.mk ?_ ?_; (focus (first | omega | rfl)); conv => whnf)
        | (refine Pick.mk ?_ ?_ ?_; rotate_left; (focus (first | (simp only [List.length_map, List.length_append, List.length_cons, List.length_nil, List.length_replicate, Nat.zero_add]; rfl) | exact map_snoc byD _ _ | (simp only [chunks]; rfl) | exact wbyte _ | (refine SlOf.full ?_; first | (simp; done) | (simp; omega)))); conv => whnf))
      refine Out.mk false [0, 1, 2, 3, 4] [] ?_
      try (conv => whnf)
      repeat (refine Need.mk ?_ ?_; (focus ((first | exact flat_by _ | exact flat_in _ | exact flat_st _ | exact flat_ts _ | exact flat_bo _ | exact flat_cl rfl))); conv => whnf)
      have e : ([] : List UInt8) ++ put v = l ++ [u8 x] := by rw [← h1, put_lt (by omega)]
      rw [List.nil_append] at e
      rw [e]
      exact ⟨by simp, by simp⟩
/-- What a reader's call for a number gives: where it is bad, what is left is not told. -/
abbrev rdR (l : List UInt8) (a : Nat) (bad : Bool) : Row := .box [cY l, cI a, cB bad]
theorem s_l01Get (l : List UInt8) (a : Nat) (hl : l.length ≤ 2 ^ 40) (ha : a ≤ 2 ^ 40) :
    CallM Try.prog id_spec_l01Get [vY l, vI .i64 a] [] [] true fun r Lo => ∃ v b ok, Lo = [] ∧ r = .tup [(false, [cI v]), (false, [cI b]), (false, [cB ok])] ∧
      match get l a with | some (x, y) => ok = true ∧ v = x ∧ b = y | none => ok = false := by
  refine F_spec_l01Get ?_
  try (conv => whnf)
  refine LoopE.mk (fun (x : Nat × Nat) => mk [(0, vY l), (1, vI .i64 a), (7, vI .i64 x.2), (8, vI .i64 ((128 ^ (min x.1 8) : Nat) : Int)), (9, vI .i64 x.1)] [])
    (fun x => x.1 ≤ 8 ∧ x.2 < 128 ^ x.1 ∧ get l a = (gs x.1 (l.drop (a + x.1))).map fun r => (x.2 + 128 ^ x.1 * r.1, a + x.1 + r.2)) (fun x => 9 - x.1) (0, 0) ⟨by simp, by simp, by simp [get]⟩ (LeX.of ?_) ?_
  · try (conv => whnf)
    repeat (refine Need.mk ?_ ?_; (focus (first | omega | (simp; done))); conv => whnf)
    trivial
  · rintro ⟨n, v⟩ ⟨h1, h2, h3⟩
    dsimp only at h1 h2 h3 ⊢
    have hp : 128 ^ n ≤ 128 ^ 8 := Nat.pow_le_pow_right (by omega) h1
    have hp7 : n = 8 ∨ 128 ^ n ≤ 128 ^ 7 := by
      rcases Nat.lt_or_ge n 8 with h | h
      · exact .inr (Nat.pow_le_pow_right (by omega) (by omega))
      · exact .inl (by omega)
    have hp9 : (128 : Nat) ^ (n + 1) = 128 ^ n * 128 := Nat.pow_succ ..
    have e8 : min n 8 = n := by omega
    rw [e8]
    rcases Nat.lt_or_ge (a + n) l.length with hlt | hge
    · have hc := l[a + n].toNat_lt
      have hm : l[a + n].toNat % 128 * 128 ^ n ≤ 127 * 128 ^ n := Nat.mul_le_mul_right _ (by omega)
      have hd : l.drop (a + n) = l[a + n] :: l.drop (a + (n + 1)) := List.drop_eq_getElem_cons hlt
      rw [hd, gs] at h3
      have hcm : (l[a + n].toNat : Int) % 128 * ((128 ^ n : Nat) : Int) = ((l[a + n].toNat % 128 * 128 ^ n : Nat) : Int) := by simp
      have hvm : v + l[a + n].toNat % 128 * 128 ^ n < 128 ^ (n + 1) := by rw [Nat.pow_succ]; omega
      have hfin : l[a + n].toNat < 128 → ¬ (n = 8 ∧ 63 < l[a + n].toNat) → get l a = if n = 0 ∨ 0 < l[a + n].toNat then some (v + l[a + n].toNat % 128 * 128 ^ n, a + n + 1) else none := fun g1 g2 => by
        rw [h3, if_neg g2, if_pos g1]
        split
        · rw [Nat.mod_eq_of_lt g1, Nat.mul_comm l[a + n].toNat]; rfl
        · rfl
      try (conv => whnf)
      repeat' (first
        | (refine Need.mk ?_ ?_; (focus (omega)); conv => whnf)
        | (refine Pick.mk ?_ ?_ ?_; rotate_left; (focus (first | exact List.length_map _ | (refine wid ?_ ?_ <;> omega) | (refine tmodn ?_; omega) | (refine pick_nat _ _ _ ?_; omega))); conv => whnf)
        | (refine SeqJ.thru ?_; conv => whnf)
        | (refine br_dec (fun _ => ?_) (fun _ => ?_) <;> first | (exfalso; omega) | contradiction | conv => whnf)
        | (refine br_not ?_; conv => whnf)
        | (refine br_bne (fun _ => ?_) (fun _ => ?_) <;> first | (exfalso; omega) | contradiction | conv => whnf)
        | (refine br_beq (fun _ => ?_) (fun _ => ?_) <;> first | (exfalso; omega) | contradiction | conv => whnf))
      · refine Out.mk true [] [] ?_
        try (conv => whnf)
        exact ⟨_, _, _, rfl, rfl, by rw [h3, if_pos (by omega)]; exact rfl⟩
      · refine Out.mk true [] [] ?_
        try (conv => whnf)
        refine ⟨_, _, _, rfl, rfl, ?_⟩
        rw [hfin (by omega) (by omega)]
        by_cases h0 : 0 < l[a + n].toNat
        · rw [if_pos (.inr h0)]; exact ⟨by simp; omega, by simp, by simp⟩
        · rw [if_neg (by omega)]; simp; omega
      · refine Out.mk true [] [] ?_
        try (conv => whnf)
        refine ⟨_, _, _, rfl, rfl, ?_⟩
        rw [hfin (by omega) (by omega), if_pos (by omega)]
        exact ⟨rfl, by simp, by simp⟩
      · refine Out.mk true [] [] ?_
        try (conv => whnf)
        refine ⟨_, _, _, rfl, rfl, ?_⟩
        rw [hfin (by omega) (by omega)]
        by_cases h0 : 0 < l[a + n].toNat
        · rw [if_pos (.inr h0)]; exact ⟨by simp; omega, by simp, by simp⟩
        · rw [if_neg (by omega)]; simp; omega
      · refine Pick.mk (n + 1, v + l[a + n].toNat % 128 * 128 ^ n) ⟨⟨by dsimp only; omega, by dsimp only; exact hvm, ?_⟩, by dsimp only; omega⟩ (LeX.of ?_)
        · dsimp only
          rw [h3, if_neg (by omega), if_neg (by omega), Option.map_map]
          congr 1
          funext r
          simp only [Function.comp, Prod.mk.injEq]
          refine ⟨?_, by omega⟩
          rw [Nat.mul_add, Nat.pow_succ, Nat.mul_comm (128 ^ n) (_ % 128), ← Nat.add_assoc, Nat.mul_assoc]
        · have e9 : min (n + 1) 8 = n + 1 := by omega
          rw [e9]
          try (conv => whnf)
          repeat (refine Need.mk ?_ ?_; (focus (first | omega | (simp; done))); conv => whnf)
          trivial
    · have hn : get l a = none := by rw [h3, List.drop_eq_nil_of_le hge]; rfl
      try (conv => whnf)
      repeat' (first
        | (refine Pick.mk ?_ ?_ ?_; rotate_left; (focus (first | exact List.length_map _ | (refine wid ?_ ?_ <;> omega))); conv => whnf)
        | (refine SeqJ.thru ?_; conv => whnf)
        | (refine br_dec (fun _ => ?_) (fun _ => ?_) <;> first | (exfalso; omega) | contradiction | conv => whnf)
        | (refine br_not ?_; conv => whnf)
        | (refine br_bne (fun _ => ?_) (fun _ => ?_) <;> first | (exfalso; omega) | contradiction | conv => whnf)
        | (refine br_beq (fun _ => ?_) (fun _ => ?_) <;> first | (exfalso; omega) | contradiction | conv => whnf))
      refine Out.mk true [] [] ?_
      try (conv => whnf)
      exact ⟨_, _, _, rfl, rfl, by rw [hn]⟩
end Go.Proofs.Ytpdjehnlejjfmaa.D
