/- Two logs beside each other, by both. -/
import Derived.Test.YtpdjehnlejjfmaaJ7
set_option linter.unusedVariables false
set_option linter.unusedSimpArgs false
namespace Go.Proofs.Ytpdjehnlejjfmaa.D
open Go.RowKit
set_option maxRecDepth 100000
set_option maxHeartbeats 4000000
set_option linter.unusedVariables false
set_option linter.unusedSimpArgs false
theorem i_vecSame (a b : List Int) (ha : a.length ≤ 2 ^ 40) (hb : b.length ≤ 2 ^ 40) : CallD Try.prog id_impl_vecSame [vV a, vV b] [] (vB (decide (a = b))) [] := by
 refine F_impl_vecSame ?_
 try (conv => whnf)
 repeat' (first
  | (refine Pick.mk ?_ ?_ ?_; rotate_left; (focus (exact List.length_map _)); conv => whnf)
  | (refine SeqJ.thru ?_; conv => whnf)
  | (refine br_dec (fun _ => ?_) (fun _ => ?_) <;> first | (exfalso; omega) | contradiction | conv => whnf)
  | (refine br_not ?_; conv => whnf)
  | (refine br_bne (fun _ => ?_) (fun _ => ?_) <;> first | (exfalso; omega) | contradiction | conv => whnf)
  | (refine br_beq (fun _ => ?_) (fun _ => ?_) <;> first | (exfalso; omega) | contradiction | conv => whnf))
 ·rename_i hlen
  refine LoopE.mk (fun i : Nat => mk [(2, .one (.ptr 4096 0)), (3, .one (.ptr 4112 0)), (15, vN a), (16, vI .i64 a.length), (17, vI .i64 i)] [(4096, .box [cN a]), (4112, .box [cN b])]) (fun i => i ≤ a.length ∧ a.take i = b.take i) (fun i => a.length - i) 0 ⟨by omega, by simp⟩ (LeX.of ?_) ?_
  ·try (conv => whnf)
   repeat (refine Need.mk ?_ ?_; (focus (first | omega | (simp; done))); conv => whnf)
   trivial
  ·rintro i ⟨hi, he⟩
   try (conv => whnf)
   repeat' (first
    | (refine Pick.mk ?_ ?_ ?_; rotate_left; (focus (first | (refine wid ?_ ?_ <;> omega) | (refine pick_nat _ _ _ ?_; omega))); conv => whnf)
    | (refine SeqJ.thru ?_; conv => whnf)
    | (refine br_dec (fun _ => ?_) (fun _ => ?_) <;> first | (exfalso; omega) | contradiction | conv => whnf)
    | (refine br_not ?_; conv => whnf)
    | (refine br_bne (fun _ => ?_) (fun _ => ?_) <;> first | (exfalso; omega) | contradiction | conv => whnf)
    | (refine br_beq (fun _ => ?_) (fun _ => ?_) <;> first | (exfalso; omega) | contradiction | conv => whnf))
   all_goals
    first
     |skip
      refine Pick.mk (i + 1) ⟨⟨by omega, take_eq_step (by omega) (by omega) he (by assumption)⟩, by omega⟩ (LeX.of ?_)
      try (conv => whnf)
      repeat (refine Need.mk ?_ ?_; (focus (first | omega | (simp; done))); conv => whnf)
      trivial
     |skip
      refine Out.mk true [] [] ?_
      try (conv => whnf)
      exact ⟨dec_f fun h => by subst h; contradiction, rfl⟩
     |skip
      refine Out.mk true [] [] ?_
      try (conv => whnf)
      exact ⟨dec_t (by rw [← List.take_of_length_le (show a.length ≤ i by omega), he, List.take_of_length_le (show b.length ≤ i by omega)]), rfl⟩
 ·rename_i hlen
  refine Out.mk true [] [] ?_
  try (conv => whnf)
  exact ⟨dec_f fun h => by subst h; exact hlen rfl, rfl⟩
theorem i_opSame (a b : OpV) (ha : a.deps.length ≤ 2 ^ 40) (hb : b.deps.length ≤ 2 ^ 40) : CallD Try.prog id_impl_opSame [vO a, vO b] [] (vB (decide (a = b))) [] := by
 refine F_impl_opSame ?_
 try (conv => whnf)
 repeat (refine SeqJ.thru ?_; conv => whnf)
 refine Hand.mk [] ?_
 try (conv => whnf)
 refine CallW.d (i_vecSame a.deps b.deps ha hb) ?_
 try (conv => whnf)
 try (conv => whnf)
 repeat' (first
  | (refine Pick.mk ?_ ?_ ?_; rotate_left; (focus (exact bs_beq _ _)); conv => whnf)
  | (refine br_dec (fun _ => ?_) (fun _ => ?_) <;> first | (exfalso; omega) | contradiction | conv => whnf)
  | (refine br_not ?_; conv => whnf)
  | (refine br_bne (fun _ => ?_) (fun _ => ?_) <;> first | (exfalso; omega) | contradiction | conv => whnf)
  | (refine br_beq (fun _ => ?_) (fun _ => ?_) <;> first | (exfalso; omega) | contradiction | conv => whnf)
  | (refine br_and ?_; conv => whnf))
 all_goals
  first
   |skip
    refine Out.mk true [] [] ?_
    try (conv => whnf)
    first
     | exact ⟨dec_f (by rw [opv_iff]; intro h; omega), rfl⟩
     | exact ⟨dec_f (by rintro rfl; contradiction), rfl⟩
     | exact ⟨dec_b (by rw [opv_iff]; simp only [*]; simp), rfl⟩
def vmin (a b : List Int) : List Int := List.zipWith (fun x y => if y < x then y else x) a b
theorem vmin_get {a b : List Int} (ha : a.length = 16) (hb : b.length = 16) {i : Nat} (hi : i < 16) : (vmin a b)[i]'(by simp [vmin]; omega) = if b[i] < a[i] then b[i] else a[i] := by simp [vmin]
def meetR (a b : List Int) : List Int := if VecOk a ∧ VecOk b then vmin a b else []
def meetC (a b : List Int) : Int := if VecOk a ∧ VecOk b then 0 else 1
theorem i_VecMeet (a b : List Int) : CallD Try.prog id_impl_VecMeet [vV a, vV b] [] (.tup [(true, [.os (.v 0) 1 0 (meetR a b).length]), (false, [cI (meetC a b)])]) [.own 1 ((meetR a b).map inD)] := by
 refine F_impl_VecMeet ?_
 have c1 := i_VecOK a
 have c2 := i_VecOK b
 by_cases h1 : VecOk a
 ·by_cases h2 : VecOk b
  ·rw [show meetR a b = vmin a b from if_pos ⟨h1, h2⟩, show meetC a b = 0 from if_pos ⟨h1, h2⟩]
   have ha := h1.1
   have hb := h2.1
   try (conv => whnf)
   repeat' (first
    | (refine SeqJ.thru ?_; conv => whnf)
    | (refine br_dec (fun _ => ?_) (fun _ => ?_) <;> first | (exfalso; omega) | contradiction | conv => whnf)
    | (refine br_not ?_; conv => whnf)
    | (refine br_bne (fun _ => ?_) (fun _ => ?_) <;> first | (exfalso; omega) | contradiction | conv => whnf)
    | (refine br_beq (fun _ => ?_) (fun _ => ?_) <;> first | (exfalso; omega) | contradiction | conv => whnf))
   refine Hand.mk [] ?_
   try (conv => whnf)
   refine CallW.d (c1) ?_
   try (conv => whnf)
   try (conv => whnf)
   repeat' (first
    | (refine br_dec (fun _ => ?_) (fun _ => ?_) <;> first | (exfalso; omega) | contradiction | conv => whnf)
    | (refine br_not ?_; conv => whnf)
    | (refine br_bne (fun _ => ?_) (fun _ => ?_) <;> first | (exfalso; omega) | contradiction | conv => whnf)
    | (refine br_beq (fun _ => ?_) (fun _ => ?_) <;> first | (exfalso; omega) | contradiction | conv => whnf))
   refine Hand.mk [] ?_
   try (conv => whnf)
   refine CallW.d (c2) ?_
   try (conv => whnf)
   try (conv => whnf)
   repeat' (first
    | (refine Need.mk ?_ ?_; (focus (omega)); conv => whnf)
    | (refine Pick.mk ?_ ?_ ?_; rotate_left; (focus (first | (simp only [List.length_map, List.length_append, List.length_cons, List.length_nil, List.length_replicate, Nat.zero_add]; rfl) | exact natlit _)); conv => whnf)
    | (refine br_dec (fun _ => ?_) (fun _ => ?_) <;> first | (exfalso; omega) | contradiction | conv => whnf)
    | (refine br_not ?_; conv => whnf)
    | (refine br_bne (fun _ => ?_) (fun _ => ?_) <;> first | (exfalso; omega) | contradiction | conv => whnf)
    | (refine br_beq (fun _ => ?_) (fun _ => ?_) <;> first | (exfalso; omega) | contradiction | conv => whnf))
   have hm : (vmin a b).length = 16 := by simp [vmin]; omega
   refine LoopE.mk (fun i : Nat => mk [(2, .one (.ptr 4096 0)), (3, .one (.ptr 4112 0)), (4, .one (.ptr 4128 0)), (6, .one (.os (.v 16384) 1 0 16)), (19, vI .i64 16), (20, vI .i64 i)] [(4096, .box [cN a]), (4112, .box [cN b]), (4128, .box [.nil]), (16384, .own 1 ((over (vmin a b) (List.replicate 16 0) i).map inD))])
    (fun i => i ≤ 16) (fun i => 16 - i) 0 (by omega) (LeX.of ?_) ?_
   ·try (conv => whnf)
    repeat (refine Need.mk ?_ ?_; (focus (first | omega | (simp only [List.length_map, List.length_append, List.length_cons, List.length_nil, List.length_replicate]; omega) | (simp; done) | rfl)); conv => whnf)
    trivial
   ·intro i hi
    by_cases hlt : i < 16
    ·have hg := vmin_get ha hb hlt
     try (conv => whnf)
     repeat' (first
      | (refine Need.mk ?_ ?_; (focus (first | omega | (simp only [List.length_map, List.length_append, List.length_cons, List.length_nil, List.length_replicate]; omega))); conv => whnf)
      | (refine Pick.mk ?_ ?_ ?_; rotate_left; (focus (first | (refine over_pick _ _ _ _ _ ?_ ?_ <;> first | assumption | (simp; done) | omega) | with_reducible exact set_inN _ _ _ _ | (refine wid ?_ ?_ <;> omega) | (refine pick_nat _ _ _ ?_; omega))); conv => whnf)
      | (refine SeqJ.thru ?_; conv => whnf)
      | (refine br_dec (fun _ => ?_) (fun _ => ?_) <;> first | (exfalso; omega) | contradiction | conv => whnf)
      | (refine br_not ?_; conv => whnf)
      | (refine br_bne (fun _ => ?_) (fun _ => ?_) <;> first | (exfalso; omega) | contradiction | conv => whnf)
      | (refine br_beq (fun _ => ?_) (fun _ => ?_) <;> first | (exfalso; omega) | contradiction | conv => whnf))
     refine Pick.mk (i + 1) (by constructor <;> first | omega | (simp only []; omega)) (LeX.of ?_)
     try (conv => whnf)
     repeat (refine Need.mk ?_ ?_; (focus (first | omega | (simp; done))); conv => whnf)
     refine Need.mk (by rw [← over_set (m := vmin a b) (by simpa using hm) (by simpa using hlt), hg]) ?_
     try (conv => whnf)
     trivial
    ·try (conv => whnf)
     repeat' (first
      | (refine SeqJ.thru ?_; conv => whnf)
      | (refine br_dec (fun _ => ?_) (fun _ => ?_) <;> first | (exfalso; omega) | contradiction | conv => whnf)
      | (refine br_not ?_; conv => whnf)
      | (refine br_bne (fun _ => ?_) (fun _ => ?_) <;> first | (exfalso; omega) | contradiction | conv => whnf)
      | (refine br_beq (fun _ => ?_) (fun _ => ?_) <;> first | (exfalso; omega) | contradiction | conv => whnf))
     refine Out.mk false [0, 1, 2, 3, 4] [] ?_
     try (conv => whnf)
     repeat (refine Need.mk ?_ ?_; (focus ((first | exact flat_by _ | exact flat_in _ | exact flat_st _ | exact flat_ts _ | exact flat_bo _ | exact flat_cl rfl))); conv => whnf)
     exact ⟨by rw [hm], by rw [over_end (by simpa using hm) (by simp; omega)]⟩
  ·rw [show meetR a b = [] from if_neg fun h => h2 h.2, show meetC a b = 1 from if_neg fun h => h2 h.2]
   try (conv => whnf)
   repeat' (first
    | (refine SeqJ.thru ?_; conv => whnf)
    | (refine br_dec (fun _ => ?_) (fun _ => ?_) <;> first | (exfalso; omega) | contradiction | conv => whnf)
    | (refine br_not ?_; conv => whnf)
    | (refine br_bne (fun _ => ?_) (fun _ => ?_) <;> first | (exfalso; omega) | contradiction | conv => whnf)
    | (refine br_beq (fun _ => ?_) (fun _ => ?_) <;> first | (exfalso; omega) | contradiction | conv => whnf))
   refine Hand.mk [] ?_
   try (conv => whnf)
   refine CallW.d (c1) ?_
   try (conv => whnf)
   try (conv => whnf)
   repeat' (first
    | (refine br_dec (fun _ => ?_) (fun _ => ?_) <;> first | (exfalso; omega) | contradiction | conv => whnf)
    | (refine br_not ?_; conv => whnf)
    | (refine br_bne (fun _ => ?_) (fun _ => ?_) <;> first | (exfalso; omega) | contradiction | conv => whnf)
    | (refine br_beq (fun _ => ?_) (fun _ => ?_) <;> first | (exfalso; omega) | contradiction | conv => whnf))
   refine Hand.mk [] ?_
   try (conv => whnf)
   refine CallW.d (c2) ?_
   try (conv => whnf)
   try (conv => whnf)
   repeat' (first
    | (refine br_dec (fun _ => ?_) (fun _ => ?_) <;> first | (exfalso; omega) | contradiction | conv => whnf)
    | (refine br_not ?_; conv => whnf)
    | (refine br_bne (fun _ => ?_) (fun _ => ?_) <;> first | (exfalso; omega) | contradiction | conv => whnf)
    | (refine br_beq (fun _ => ?_) (fun _ => ?_) <;> first | (exfalso; omega) | contradiction | conv => whnf))
   refine Out.mk false [0, 1, 2, 3, 4] [(0, 1)] ?_
   try (conv => whnf)
   repeat (refine Need.mk ?_ ?_; (focus ((first | exact flat_by _ | exact flat_in _ | exact flat_st _ | exact flat_ts _ | exact flat_bo _ | exact flat_cl rfl))); conv => whnf)
   exact ⟨rfl, rfl⟩
 ·rw [show meetR a b = [] from if_neg fun h => h1 h.1, show meetC a b = 1 from if_neg fun h => h1 h.1]
  try (conv => whnf)
  repeat' (first
   | (refine SeqJ.thru ?_; conv => whnf)
   | (refine br_dec (fun _ => ?_) (fun _ => ?_) <;> first | (exfalso; omega) | contradiction | conv => whnf)
   | (refine br_not ?_; conv => whnf)
   | (refine br_bne (fun _ => ?_) (fun _ => ?_) <;> first | (exfalso; omega) | contradiction | conv => whnf)
   | (refine br_beq (fun _ => ?_) (fun _ => ?_) <;> first | (exfalso; omega) | contradiction | conv => whnf))
  refine Hand.mk [] ?_
  try (conv => whnf)
  refine CallW.d (c1) ?_
  try (conv => whnf)
  try (conv => whnf)
  repeat' (first
   | (refine br_dec (fun _ => ?_) (fun _ => ?_) <;> first | (exfalso; omega) | contradiction | conv => whnf)
   | (refine br_not ?_; conv => whnf)
   | (refine br_bne (fun _ => ?_) (fun _ => ?_) <;> first | (exfalso; omega) | contradiction | conv => whnf)
   | (refine br_beq (fun _ => ?_) (fun _ => ?_) <;> first | (exfalso; omega) | contradiction | conv => whnf))
  refine Out.mk false [0, 1, 2, 3, 4] [(0, 1)] ?_
  try (conv => whnf)
  repeat (refine Need.mk ?_ ?_; (focus ((first | exact flat_by _ | exact flat_in _ | exact flat_st _ | exact flat_ts _ | exact flat_bo _ | exact flat_cl rfl))); conv => whnf)
  exact ⟨rfl, rfl⟩
theorem s_VecMeet (a b : List Int) : CallD Try.prog id_spec_VecMeet [vV a, vV b] [] (.tup [(true, [.os (.v 0) 1 0 (meetR a b).length]), (false, [cI (meetC a b)])]) [.own 1 ((meetR a b).map inD)] := by
 refine F_spec_VecMeet ?_
 have c1 := s_VecOK a
 have c2 := s_VecOK b
 by_cases h1 : VecOk a
 ·by_cases h2 : VecOk b
  ·rw [show meetR a b = vmin a b from if_pos ⟨h1, h2⟩, show meetC a b = 0 from if_pos ⟨h1, h2⟩]
   have ha := h1.1
   have hb := h2.1
   try (conv => whnf)
   repeat' (first
    | (refine SeqJ.thru ?_; conv => whnf)
    | (refine br_dec (fun _ => ?_) (fun _ => ?_) <;> first | (exfalso; omega) | contradiction | conv => whnf)
    | (refine br_not ?_; conv => whnf)
    | (refine br_bne (fun _ => ?_) (fun _ => ?_) <;> first | (exfalso; omega) | contradiction | conv => whnf)
    | (refine br_beq (fun _ => ?_) (fun _ => ?_) <;> first | (exfalso; omega) | contradiction | conv => whnf))
   refine Hand.mk [] ?_
   try (conv => whnf)
   refine CallW.d (c1) ?_
   try (conv => whnf)
   try (conv => whnf)
   repeat' (first
    | (refine br_dec (fun _ => ?_) (fun _ => ?_) <;> first | (exfalso; omega) | contradiction | conv => whnf)
    | (refine br_not ?_; conv => whnf)
    | (refine br_bne (fun _ => ?_) (fun _ => ?_) <;> first | (exfalso; omega) | contradiction | conv => whnf)
    | (refine br_beq (fun _ => ?_) (fun _ => ?_) <;> first | (exfalso; omega) | contradiction | conv => whnf))
   refine Hand.mk [] ?_
   try (conv => whnf)
   refine CallW.d (c2) ?_
   try (conv => whnf)
   try (conv => whnf)
   repeat' (first
    | (refine br_dec (fun _ => ?_) (fun _ => ?_) <;> first | (exfalso; omega) | contradiction | conv => whnf)
    | (refine br_not ?_; conv => whnf)
    | (refine br_bne (fun _ => ?_) (fun _ => ?_) <;> first | (exfalso; omega) | contradiction | conv => whnf)
    | (refine br_beq (fun _ => ?_) (fun _ => ?_) <;> first | (exfalso; omega) | contradiction | conv => whnf))
   have hm : (vmin a b).length = 16 := by simp [vmin]; omega
   refine LoopE.mk (fun i : Nat => mk [(2, .one (.ptr 4096 0)), (3, .one (.ptr 4112 0)), (4, .one (.ptr 4128 0)), (6, .one (.ptr 16400 0)), (7, vI .i64 i)] [(4096, .box [cN a]), (4112, .box [cN b]), (4128, .box [.nil]), (16400, .box [.os (.v 32992) 1 0 i]), (32992, .own 1 (((vmin a b).take i).map inD))])
    (fun i => i ≤ 16) (fun i => 16 - i) 0 (by omega) (LeX.of ?_) ?_
   ·try (conv => whnf)
    repeat (refine Need.mk ?_ ?_; (focus (first | omega | (simp; done))); conv => whnf)
    trivial
   ·intro i hi
    by_cases hlt : i < 16
    ·have hg := vmin_get ha hb hlt
     try (conv => whnf)
     repeat' (first
      | (refine Need.mk ?_ ?_; (focus (first | omega | rfl | ((conv => whnf); (repeat (first | (refine Need.mk (by first | rfl | omega | (simp; done)) ?_; conv => whnf) | (refine Pick.mk ?_ ?_ ?_; rotate_left; (focus (first | with_reducible exact xor_u8 _ _ | (with_reducible refine xor_i64 ?_ ?_; all_goals omega) | (with_reducible refine xor_u32 ?_ ?_; all_goals omega) | (refine over_pick _ _ _ _ _ ?_ ?_ <;> first | assumption | (simp; done) | omega) | exact sl_ops _ rfl | (with_reducible refine bk_kd ?_ ?_ <;> first | assumption | omega) | (with_reducible refine bk_of ?_ ?_ <;> first | assumption | omega) | assumption | with_reducible exact set_byN _ _ _ _ | with_reducible exact set_byI _ _ _ _ | with_reducible exact set_inN _ _ _ _ | with_reducible exact set_inI _ _ _ _ | with_reducible exact set_stN _ _ _ _ | with_reducible exact set_tsN _ _ _ _ | with_reducible exact set_tsI _ _ _ _ | with_reducible exact set_boN _ _ _ _ | with_reducible exact set_boI _ _ _ _ | (with_reducible refine get_mapN _ _ _ ?_; first | omega | (simp; omega)) | (with_reducible refine get_mapI _ _ _ ?_ ?_ <;> first | omega | (simp; omega)) | exact bs_beq _ _ | exact bs_less _ _ | exact bs_leq _ _ | with_reducible exact bs_app _ _ | (refine bs_get _ _ ?_; omega) | (refine bs_int _ _ ?_ ?_ <;> omega) | with_reducible exact sl_map0 _ _ _ | with_reducible exact sl_mapN _ _ _ | with_reducible exact sl_map _ _ _ _ | exact bs_extract0 _ _ | exact bs_extractN _ _ | exact bs_extract _ _ _ | (refine bnd_id ?_; omega) | (refine bnd_sub ?_ ?_ <;> omega) | (refine bnd_add ?_; omega) | (refine bnd_subN ?_ ?_ <;> omega) | (refine bnd_int ?_ ?_ <;> omega) | ((show @Eq Nat (_ + Int.toNat _ * _) _); simp only [Int.toNat_natCast, Nat.zero_add, Nat.mul_one]; rfl) | ((show @Eq (List _) (List.set [_] _ _) _); simp only [List.set_cons_zero]; rfl) | exact List.length_map _ | exact size_bs _ | (simp only [List.length_map, List.length_append, List.length_cons, List.length_nil, List.length_replicate, Nat.zero_add]; rfl) | with_reducible exact List.nil_append _ | with_reducible exact map_app _ _ _ | exact map_snoc byD _ _ | exact map_snoc inD _ _ | exact map_snoc stD _ _ | exact map_snoc tsD _ _ | (simp only [chunks]; rfl) | (refine wid ?_ ?_ <;> omega) | exact wby _ | with_reducible exact wby32 _ | with_reducible exact wu32 _ | exact wby64 _ | exact shr8 _ | exact shr16 _ | exact shr24 _ | exact shr32 _ | (refine tmodn ?_; omega) | (refine wdiv ?_ ?_ ?_ <;> omega) | exact wbyte _ | exact natlit _ | exact rep_by _ | exact rep_in _ | exact rep_bo _ | exact rep_st _ | (refine pick_nat _ _ _ ?_; omega) | (refine pick_int _ _ _ ?_ ?_ <;> omega) | (refine SlOf.full ?_; first | (simp; done) | (simp; omega)) | (with_reducible refine SlOf.pre _ _ ?_; first | omega | (simp; omega)) | (refine SlF.self _ _ ?_ ?_; (first | rfl | omega | (simp; done) | (simp; omega)); (exact fun _ => rfl)) | (refine SlF.pre _ _ ?_ ?_; (first | omega | (simp; omega)); (exact fun _ => rfl)) | (refine SlF.same ?_ ?_; (first | rfl | omega | (simp; done) | (simp; omega)); (first | exact fz_self _ _ (fun _ => rfl) | exact fz_pl rfl | (refine Fz.append ?_ ?_ <;> first | exact fz_self _ _ (fun _ => rfl) | exact fz_pl rfl) | (refine Fz.append (Fz.append ?_ ?_) ?_ <;> first | exact fz_self _ _ (fun _ => rfl) | exact fz_pl rfl))) | (simp only [Int.toNat_natCast, Nat.zero_add, Nat.mul_one]; rfl) | ((show @Eq (Option CV) _ _); rfl) | ((fail_if_success (show @Eq (Option _) _ _)); rfl) | ((show @Eq (Option _) _ _); simp only [List.getElem?_cons_zero, List.getElem?_cons_succ]; done) | ((show @Eq (Option _) _ _); simp only [List.getElem?_cons_zero, List.getElem?_cons_succ]; rfl) | with_reducible rfl)); conv => whnf))); exact Done.mk trivial))); conv => whnf)
      | (refine Pick.mk ?_ ?_ ?_; rotate_left; (focus (first | (simp only [List.length_map, List.length_append, List.length_cons, List.length_nil, List.length_replicate, Nat.zero_add]; rfl) | exact map_snoc inD _ _ | (simp only [chunks]; rfl) | (refine wid ?_ ?_ <;> omega) | (refine pick_nat _ _ _ ?_; omega) | (refine SlOf.full ?_; first | (simp; done) | (simp; omega)))); conv => whnf)
      | (refine SeqJ.thru ?_; conv => whnf)
      | (refine br_dec (fun _ => ?_) (fun _ => ?_) <;> first | (exfalso; omega) | contradiction | conv => whnf)
      | (refine br_not ?_; conv => whnf)
      | (refine br_bne (fun _ => ?_) (fun _ => ?_) <;> first | (exfalso; omega) | contradiction | conv => whnf)
      | (refine br_beq (fun _ => ?_) (fun _ => ?_) <;> first | (exfalso; omega) | contradiction | conv => whnf))
     refine Pick.mk (i + 1) (by constructor <;> first | omega | (simp only []; omega)) (LeX.of ?_)
     try (conv => whnf)
     repeat (refine Need.mk ?_ ?_; (focus (first | omega | (simp; done))); conv => whnf)
     refine Need.mk (by rw [List.take_succ_eq_append_getElem (by omega), hg]) ?_
     try (conv => whnf)
     trivial
    ·obtain rfl : i = 16 := by omega
     try (conv => whnf)
     repeat' (first
      | (refine SeqJ.thru ?_; conv => whnf)
      | (refine br_dec (fun _ => ?_) (fun _ => ?_) <;> first | (exfalso; omega) | contradiction | conv => whnf)
      | (refine br_not ?_; conv => whnf)
      | (refine br_bne (fun _ => ?_) (fun _ => ?_) <;> first | (exfalso; omega) | contradiction | conv => whnf)
      | (refine br_beq (fun _ => ?_) (fun _ => ?_) <;> first | (exfalso; omega) | contradiction | conv => whnf))
     refine Out.mk false [0, 1, 2, 3, 4] [] ?_
     try (conv => whnf)
     repeat (refine Need.mk ?_ ?_; (focus ((first | exact flat_by _ | exact flat_in _ | exact flat_st _ | exact flat_ts _ | exact flat_bo _ | exact flat_cl rfl))); conv => whnf)
     exact ⟨by rw [hm], by rw [List.take_of_length_le (by omega)]⟩
  ·rw [show meetR a b = [] from if_neg fun h => h2 h.2, show meetC a b = 1 from if_neg fun h => h2 h.2]
   try (conv => whnf)
   repeat' (first
    | (refine SeqJ.thru ?_; conv => whnf)
    | (refine br_dec (fun _ => ?_) (fun _ => ?_) <;> first | (exfalso; omega) | contradiction | conv => whnf)
    | (refine br_not ?_; conv => whnf)
    | (refine br_bne (fun _ => ?_) (fun _ => ?_) <;> first | (exfalso; omega) | contradiction | conv => whnf)
    | (refine br_beq (fun _ => ?_) (fun _ => ?_) <;> first | (exfalso; omega) | contradiction | conv => whnf))
   refine Hand.mk [] ?_
   try (conv => whnf)
   refine CallW.d (c1) ?_
   try (conv => whnf)
   try (conv => whnf)
   repeat' (first
    | (refine br_dec (fun _ => ?_) (fun _ => ?_) <;> first | (exfalso; omega) | contradiction | conv => whnf)
    | (refine br_not ?_; conv => whnf)
    | (refine br_bne (fun _ => ?_) (fun _ => ?_) <;> first | (exfalso; omega) | contradiction | conv => whnf)
    | (refine br_beq (fun _ => ?_) (fun _ => ?_) <;> first | (exfalso; omega) | contradiction | conv => whnf))
   refine Hand.mk [] ?_
   try (conv => whnf)
   refine CallW.d (c2) ?_
   try (conv => whnf)
   try (conv => whnf)
   repeat' (first
    | (refine br_dec (fun _ => ?_) (fun _ => ?_) <;> first | (exfalso; omega) | contradiction | conv => whnf)
    | (refine br_not ?_; conv => whnf)
    | (refine br_bne (fun _ => ?_) (fun _ => ?_) <;> first | (exfalso; omega) | contradiction | conv => whnf)
    | (refine br_beq (fun _ => ?_) (fun _ => ?_) <;> first | (exfalso; omega) | contradiction | conv => whnf))
   refine Out.mk false [0, 1, 2, 3, 4] [(0, 1)] ?_
   try (conv => whnf)
   repeat (refine Need.mk ?_ ?_; (focus ((first | exact flat_by _ | exact flat_in _ | exact flat_st _ | exact flat_ts _ | exact flat_bo _ | exact flat_cl rfl))); conv => whnf)
   exact ⟨rfl, rfl⟩
 ·rw [show meetR a b = [] from if_neg fun h => h1 h.1, show meetC a b = 1 from if_neg fun h => h1 h.1]
  try (conv => whnf)
  repeat' (first
   | (refine SeqJ.thru ?_; conv => whnf)
   | (refine br_dec (fun _ => ?_) (fun _ => ?_) <;> first | (exfalso; omega) | contradiction | conv => whnf)
   | (refine br_not ?_; conv => whnf)
   | (refine br_bne (fun _ => ?_) (fun _ => ?_) <;> first | (exfalso; omega) | contradiction | conv => whnf)
   | (refine br_beq (fun _ => ?_) (fun _ => ?_) <;> first | (exfalso; omega) | contradiction | conv => whnf))
  refine Hand.mk [] ?_
  try (conv => whnf)
  refine CallW.d (c1) ?_
  try (conv => whnf)
  try (conv => whnf)
  repeat' (first
   | (refine br_dec (fun _ => ?_) (fun _ => ?_) <;> first | (exfalso; omega) | contradiction | conv => whnf)
   | (refine br_not ?_; conv => whnf)
   | (refine br_bne (fun _ => ?_) (fun _ => ?_) <;> first | (exfalso; omega) | contradiction | conv => whnf)
   | (refine br_beq (fun _ => ?_) (fun _ => ?_) <;> first | (exfalso; omega) | contradiction | conv => whnf))
  refine Out.mk false [0, 1, 2, 3, 4] [(0, 1)] ?_
  try (conv => whnf)
  repeat (refine Need.mk ?_ ?_; (focus ((first | exact flat_by _ | exact flat_in _ | exact flat_st _ | exact flat_ts _ | exact flat_bo _ | exact flat_cl rfl))); conv => whnf)
  exact ⟨rfl, rfl⟩
end Go.Proofs.Ytpdjehnlejjfmaa.D
/- Two logs merged, by both. -/
namespace Go.Proofs.Ytpdjehnlejjfmaa.D
open Go.RowKit
set_option maxRecDepth 100000
set_option maxHeartbeats 4000000
set_option linter.unusedVariables false
set_option linter.unusedSimpArgs false
theorem fork_iff {a b : List OpV} (ha : LogOk a) (hb : LogOk b) : noFork a b ↔ ∀ o ∈ a, ∀ p, (own b o.actor)[(o.seq - 1).toNat]? = some p → p = o := by
 constructor
 ·intro h o ho p hp
  have hact := (ha.good.all o ho).st.2
  have hm : o ∈ own a o.actor := by simp [own, ho]
  obtain ⟨i, hi, e⟩ := List.mem_iff_getElem.1 hm
  have hs := (ha.good.own_at o.actor i hi).1
  rw [e] at hs
  rw [show (o.seq - 1).toNat = i by omega] at hp
  obtain ⟨hi2, e2⟩ := List.getElem?_eq_some_iff.1 hp
  have en : ((o.actor.toNat : Nat) : Int) = o.actor := by omega
  have := h o.actor.toNat (by omega) i (by rw [en]; exact hi) (by rw [en]; exact hi2)
  simp only [en] at this
  rw [← e2, ← this, e]
 ·intro h n hn i h1 h2
  have hm := mem_own.1 (List.getElem_mem h1)
  have hs := (ha.good.own_at n i h1).1
  have := h _ hm.1 ((own b n)[i]) (by rw [hm.2, hs, show ((i : Int) + 1 - 1).toNat = i by omega, List.getElem?_eq_getElem])
  exact this.symm
theorem s_l08CopyOpF (o : OpV) (hl : o.deps.length ≤ 2 ^ 39) : CallN Try.prog id_spec_l08CopyOp [vO o] [] [] (vO o) [] := by
 refine F_spec_l08CopyOp ?_
 try (conv => whnf)
 refine Hand.mk [] ?_
 try (conv => whnf)
 refine CallW.d (s_l02Copy o.deps (by omega)) ?_
 try (conv => whnf)
 refine Out.mk true [] [] ?_
 try (conv => whnf)
 repeat (refine Pick.mk ?_ ?_ ?_; rotate_left; (focus ((refine SlF.self _ _ ?_ ?_; (first | rfl | omega | (simp; done) | (simp; omega)); (exact fun _ => rfl)))); conv => whnf)
 exact ⟨rfl, rfl⟩
theorem s_l11Code (a b : List OpV) (ha : ∀ o ∈ a, o.key.length ≤ 2 ^ 40 ∧ o.text.length ≤ 2 ^ 40) (hb : ∀ o ∈ b, o.key.length ≤ 2 ^ 40 ∧ o.text.length ≤ 2 ^ 40) :
  CallD Try.prog id_spec_l11Code [vL a, vL b] [] (vI .i64 (mcode a b)) [] := by
 refine F_spec_l11Code ?_
 have c1 := s_LogOK a ha
 have c2 := s_LogOK b hb
 by_cases h1 : LogOk a
 ·by_cases h2 : LogOk b
  ·have hdl : ∀ l, LogOk l → ∀ o ∈ l, o.deps.length ≤ 2 ^ 39 := fun l h o ho => by have := (h.good.all o ho).vec.1; omega
   have hla := h1.len
   have hlb := h2.len
   try (conv => whnf)
   repeat' (first
    | (refine SeqJ.thru ?_; conv => whnf)
    | (refine br_dec (fun _ => ?_) (fun _ => ?_) <;> first | (exfalso; omega) | contradiction | conv => whnf)
    | (refine br_not ?_; conv => whnf)
    | (refine br_bne (fun _ => ?_) (fun _ => ?_) <;> first | (exfalso; omega) | contradiction | conv => whnf)
    | (refine br_beq (fun _ => ?_) (fun _ => ?_) <;> first | (exfalso; omega) | contradiction | conv => whnf))
   refine Hand.mk [] ?_
   try (conv => whnf)
   refine CallW.d (c1) ?_
   try (conv => whnf)
   try (conv => whnf)
   repeat' (first
    | (refine br_dec (fun _ => ?_) (fun _ => ?_) <;> first | (exfalso; omega) | contradiction | conv => whnf)
    | (refine br_not ?_; conv => whnf)
    | (refine br_bne (fun _ => ?_) (fun _ => ?_) <;> first | (exfalso; omega) | contradiction | conv => whnf)
    | (refine br_beq (fun _ => ?_) (fun _ => ?_) <;> first | (exfalso; omega) | contradiction | conv => whnf))
   refine Hand.mk [] ?_
   try (conv => whnf)
   refine CallW.d (c2) ?_
   try (conv => whnf)
   try (conv => whnf)
   repeat' (first
    | (refine br_dec (fun _ => ?_) (fun _ => ?_) <;> first | (exfalso; omega) | contradiction | conv => whnf)
    | (refine br_not ?_; conv => whnf)
    | (refine br_bne (fun _ => ?_) (fun _ => ?_) <;> first | (exfalso; omega) | contradiction | conv => whnf)
    | (refine br_beq (fun _ => ?_) (fun _ => ?_) <;> first | (exfalso; omega) | contradiction | conv => whnf))
   refine LoopE.mk (fun i : Nat => mk [(0, vL a), (1, vL b), (5, vI .i64 i)] []) (fun i => i ≤ a.length ∧ ∀ o ∈ a.take i, ∀ p, (own b o.actor)[(o.seq - 1).toNat]? = some p → p = o) (fun i => a.length - i) 0 ⟨by omega, by simp⟩ (LeX.of ?_) ?_
   ·try (conv => whnf)
    repeat (refine Need.mk ?_ ?_; (focus (first | omega | (simp; done))); conv => whnf)
    trivial
   ·rintro i ⟨hi, hf⟩
    by_cases hlt : i < a.length
    ·have hoo := h1.good.all _ (List.getElem_mem hlt)
     obtain ⟨q0, q1⟩ := hoo.seq
     have c3 := s_l08FindN b a[i].actor a[i].seq h2.good.sorted (by have := h2.len; omega) (by omega)
     by_cases hfd : a[i].seq ≤ (own b a[i].actor).length
     ·obtain ⟨f1, f2, f3, f4⟩ := findL_some h2.good.sorted q0 hfd
      have f4 := f4 f3
      have hpo := h2.good.all _ (List.getElem_mem f3)
      generalize hk : findL b a[i].actor a[i].seq = k at c3 f2 f3 f4 hpo
      have hat : (own b a[i].actor)[(a[i].seq - 1).toNat]? = some b[k.toNat] := by rw [f4, List.getElem?_eq_getElem]
      have c4 := s_l08SameOp a[i] (b[k.toNat]'(by omega)) (by have := hdl a h1 _ (List.getElem_mem hlt); omega) (by have := hdl b h2 _ (List.getElem_mem f3); omega)
      by_cases he : a[i] = (b[k.toNat]'(by omega))
      ·try (conv => whnf)
       repeat' (first
        | (refine Pick.mk ?_ ?_ ?_; rotate_left; (focus (first | exact List.length_map _ | (refine pick_nat _ _ _ ?_; omega))); conv => whnf)
        | (refine SeqJ.thru ?_; conv => whnf)
        | (refine br_dec (fun _ => ?_) (fun _ => ?_) <;> first | (exfalso; omega) | contradiction | conv => whnf)
        | (refine br_not ?_; conv => whnf)
        | (refine br_bne (fun _ => ?_) (fun _ => ?_) <;> first | (exfalso; omega) | contradiction | conv => whnf)
        | (refine br_beq (fun _ => ?_) (fun _ => ?_) <;> first | (exfalso; omega) | contradiction | conv => whnf))
       refine Hand.mk [] ?_
       try (conv => whnf)
       refine CallW.d (c3) ?_
       try (conv => whnf)
       try (conv => whnf)
       repeat' (first
        | (refine Pick.mk ?_ ?_ ?_; rotate_left; (focus (first | (refine pick_nat _ _ _ ?_; omega) | (refine pick_int _ _ _ ?_ ?_ <;> omega))); conv => whnf)
        | (refine br_dec (fun _ => ?_) (fun _ => ?_) <;> first | (exfalso; omega) | contradiction | conv => whnf)
        | (refine br_not ?_; conv => whnf)
        | (refine br_bne (fun _ => ?_) (fun _ => ?_) <;> first | (exfalso; omega) | contradiction | conv => whnf)
        | (refine br_beq (fun _ => ?_) (fun _ => ?_) <;> first | (exfalso; omega) | contradiction | conv => whnf))
       refine Hand.mk [] ?_
       try (conv => whnf)
       refine CallW.d (c4) ?_
       try (conv => whnf)
       try (conv => whnf)
       repeat' (first
        | (refine Pick.mk ?_ ?_ ?_; rotate_left; (focus ((refine wid ?_ ?_ <;> omega))); conv => whnf)
        | (refine br_dec (fun _ => ?_) (fun _ => ?_) <;> first | (exfalso; omega) | contradiction | conv => whnf)
        | (refine br_not ?_; conv => whnf)
        | (refine br_bne (fun _ => ?_) (fun _ => ?_) <;> first | (exfalso; omega) | contradiction | conv => whnf)
        | (refine br_beq (fun _ => ?_) (fun _ => ?_) <;> first | (exfalso; omega) | contradiction | conv => whnf))
       refine Pick.mk (i + 1) ⟨⟨by omega, all_next hlt hf fun p hp => by rw [hat] at hp; injection hp with hp; rw [← hp, ← he]⟩, by omega⟩ (LeX.of ?_)
       try (conv => whnf)
       repeat (refine Need.mk ?_ ?_; (focus (first | omega | (simp; done))); conv => whnf)
       trivial
      ·try (conv => whnf)
       repeat' (first
        | (refine Pick.mk ?_ ?_ ?_; rotate_left; (focus (first | exact List.length_map _ | (refine pick_nat _ _ _ ?_; omega))); conv => whnf)
        | (refine SeqJ.thru ?_; conv => whnf)
        | (refine br_dec (fun _ => ?_) (fun _ => ?_) <;> first | (exfalso; omega) | contradiction | conv => whnf)
        | (refine br_not ?_; conv => whnf)
        | (refine br_bne (fun _ => ?_) (fun _ => ?_) <;> first | (exfalso; omega) | contradiction | conv => whnf)
        | (refine br_beq (fun _ => ?_) (fun _ => ?_) <;> first | (exfalso; omega) | contradiction | conv => whnf))
       refine Hand.mk [] ?_
       try (conv => whnf)
       refine CallW.d (c3) ?_
       try (conv => whnf)
       try (conv => whnf)
       repeat' (first
        | (refine Pick.mk ?_ ?_ ?_; rotate_left; (focus (first | (refine pick_nat _ _ _ ?_; omega) | (refine pick_int _ _ _ ?_ ?_ <;> omega))); conv => whnf)
        | (refine br_dec (fun _ => ?_) (fun _ => ?_) <;> first | (exfalso; omega) | contradiction | conv => whnf)
        | (refine br_not ?_; conv => whnf)
        | (refine br_bne (fun _ => ?_) (fun _ => ?_) <;> first | (exfalso; omega) | contradiction | conv => whnf)
        | (refine br_beq (fun _ => ?_) (fun _ => ?_) <;> first | (exfalso; omega) | contradiction | conv => whnf))
       refine Hand.mk [] ?_
       try (conv => whnf)
       refine CallW.d (c4) ?_
       try (conv => whnf)
       try (conv => whnf)
       repeat' (first
        | (refine br_dec (fun _ => ?_) (fun _ => ?_) <;> first | (exfalso; omega) | contradiction | conv => whnf)
        | (refine br_not ?_; conv => whnf)
        | (refine br_bne (fun _ => ?_) (fun _ => ?_) <;> first | (exfalso; omega) | contradiction | conv => whnf)
        | (refine br_beq (fun _ => ?_) (fun _ => ?_) <;> first | (exfalso; omega) | contradiction | conv => whnf))
       refine Out.mk true [] [] ?_
       try (conv => whnf)
       exact ⟨by rw [mcode, if_neg (by simp [h1, h2]), if_pos fun h => he ((fork_iff h1 h2).1 h _ (List.getElem_mem hlt) _ hat).symm], rfl⟩
     ·rw [show findL b a[i].actor a[i].seq = -1 by rw [findL, if_neg (by omega)]] at c3
      try (conv => whnf)
      repeat' (first
       | (refine Pick.mk ?_ ?_ ?_; rotate_left; (focus (first | exact List.length_map _ | (refine pick_nat _ _ _ ?_; omega))); conv => whnf)
       | (refine SeqJ.thru ?_; conv => whnf)
       | (refine br_dec (fun _ => ?_) (fun _ => ?_) <;> first | (exfalso; omega) | contradiction | conv => whnf)
       | (refine br_not ?_; conv => whnf)
       | (refine br_bne (fun _ => ?_) (fun _ => ?_) <;> first | (exfalso; omega) | contradiction | conv => whnf)
       | (refine br_beq (fun _ => ?_) (fun _ => ?_) <;> first | (exfalso; omega) | contradiction | conv => whnf))
      refine Hand.mk [] ?_
      try (conv => whnf)
      refine CallW.d (c3) ?_
      try (conv => whnf)
      repeat (refine Pick.mk ?_ ?_ ?_; rotate_left; (focus ((refine wid ?_ ?_ <;> omega))); conv => whnf)
      try (conv => whnf)
      repeat' (first
       | (refine br_dec (fun _ => ?_) (fun _ => ?_) <;> first | (exfalso; omega) | contradiction | conv => whnf)
       | (refine br_not ?_; conv => whnf)
       | (refine br_bne (fun _ => ?_) (fun _ => ?_) <;> first | (exfalso; omega) | contradiction | conv => whnf)
       | (refine br_beq (fun _ => ?_) (fun _ => ?_) <;> first | (exfalso; omega) | contradiction | conv => whnf))
      refine Pick.mk (i + 1) ⟨⟨by omega, all_next hlt hf fun p hp => by rw [List.getElem?_eq_none (by omega)] at hp; cases hp⟩, by omega⟩ (LeX.of ?_)
      try (conv => whnf)
      repeat (refine Need.mk ?_ ?_; (focus (first | omega | (simp; done))); conv => whnf)
      trivial
    ·have hf := all_end hf (by omega)
     try (conv => whnf)
     repeat' (first
      | (refine Pick.mk ?_ ?_ ?_; rotate_left; (focus (exact List.length_map _)); conv => whnf)
      | (refine SeqJ.thru ?_; conv => whnf)
      | (refine br_dec (fun _ => ?_) (fun _ => ?_) <;> first | (exfalso; omega) | contradiction | conv => whnf)
      | (refine br_not ?_; conv => whnf)
      | (refine br_bne (fun _ => ?_) (fun _ => ?_) <;> first | (exfalso; omega) | contradiction | conv => whnf)
      | (refine br_beq (fun _ => ?_) (fun _ => ?_) <;> first | (exfalso; omega) | contradiction | conv => whnf))
     refine Out.mk true [] [] ?_
     try (conv => whnf)
     exact ⟨by rw [mcode_ok.2 ⟨h1, h2, (fork_iff h1 h2).2 hf⟩], rfl⟩
  ·have e : mcode a b = 1 := if_pos fun h => h2 h.2
   rw [e]
   try (conv => whnf)
   repeat' (first
    | (refine SeqJ.thru ?_; conv => whnf)
    | (refine br_dec (fun _ => ?_) (fun _ => ?_) <;> first | (exfalso; omega) | contradiction | conv => whnf)
    | (refine br_not ?_; conv => whnf)
    | (refine br_bne (fun _ => ?_) (fun _ => ?_) <;> first | (exfalso; omega) | contradiction | conv => whnf)
    | (refine br_beq (fun _ => ?_) (fun _ => ?_) <;> first | (exfalso; omega) | contradiction | conv => whnf))
   refine Hand.mk [] ?_
   try (conv => whnf)
   refine CallW.d (c1) ?_
   try (conv => whnf)
   try (conv => whnf)
   repeat' (first
    | (refine br_dec (fun _ => ?_) (fun _ => ?_) <;> first | (exfalso; omega) | contradiction | conv => whnf)
    | (refine br_not ?_; conv => whnf)
    | (refine br_bne (fun _ => ?_) (fun _ => ?_) <;> first | (exfalso; omega) | contradiction | conv => whnf)
    | (refine br_beq (fun _ => ?_) (fun _ => ?_) <;> first | (exfalso; omega) | contradiction | conv => whnf))
   refine Hand.mk [] ?_
   try (conv => whnf)
   refine CallW.d (c2) ?_
   try (conv => whnf)
   try (conv => whnf)
   repeat' (first
    | (refine br_dec (fun _ => ?_) (fun _ => ?_) <;> first | (exfalso; omega) | contradiction | conv => whnf)
    | (refine br_not ?_; conv => whnf)
    | (refine br_bne (fun _ => ?_) (fun _ => ?_) <;> first | (exfalso; omega) | contradiction | conv => whnf)
    | (refine br_beq (fun _ => ?_) (fun _ => ?_) <;> first | (exfalso; omega) | contradiction | conv => whnf))
   refine Out.mk true [] [] ?_
   try (conv => whnf)
   exact ⟨rfl, rfl⟩
 ·have e : mcode a b = 1 := if_pos fun h => h1 h.1
  rw [e]
  try (conv => whnf)
  repeat' (first
   | (refine SeqJ.thru ?_; conv => whnf)
   | (refine br_dec (fun _ => ?_) (fun _ => ?_) <;> first | (exfalso; omega) | contradiction | conv => whnf)
   | (refine br_not ?_; conv => whnf)
   | (refine br_bne (fun _ => ?_) (fun _ => ?_) <;> first | (exfalso; omega) | contradiction | conv => whnf)
   | (refine br_beq (fun _ => ?_) (fun _ => ?_) <;> first | (exfalso; omega) | contradiction | conv => whnf))
  refine Hand.mk [] ?_
  try (conv => whnf)
  refine CallW.d (c1) ?_
  try (conv => whnf)
  try (conv => whnf)
  repeat' (first
   | (refine br_dec (fun _ => ?_) (fun _ => ?_) <;> first | (exfalso; omega) | contradiction | conv => whnf)
   | (refine br_not ?_; conv => whnf)
   | (refine br_bne (fun _ => ?_) (fun _ => ?_) <;> first | (exfalso; omega) | contradiction | conv => whnf)
   | (refine br_beq (fun _ => ?_) (fun _ => ?_) <;> first | (exfalso; omega) | contradiction | conv => whnf))
  refine Out.mk true [] [] ?_
  try (conv => whnf)
  exact ⟨rfl, rfl⟩
theorem s_BranchMerge (a b : List OpV) (ha : ∀ o ∈ a, o.key.length ≤ 2 ^ 40 ∧ o.text.length ≤ 2 ^ 40) (hb : ∀ o ∈ b, o.key.length ≤ 2 ^ 40 ∧ o.text.length ≤ 2 ^ 40) :
  CallN Try.prog id_spec_BranchMerge [vL a, vL b] [] [] (.tup [(false, [cL (mergeR a b)]), (false, [cI (mergeC a b)])]) [] := by
 refine F_spec_BranchMerge ?_
 have c1 := s_l11Code a b ha hb
 by_cases hc : mcode a b = 0
 ·obtain ⟨h1, h2, hf⟩ := mcode_ok.1 hc
  rw [hc] at c1
  have hla := h1.len
  have hlb := h2.len
  try (conv => whnf)
  refine Hand.mk [] ?_
  try (conv => whnf)
  refine CallW.d (c1) ?_
  try (conv => whnf)
  repeat (refine SeqJ.thru ?_; conv => whnf)
  try (conv => whnf)
  repeat' (first
   | (refine br_dec (fun _ => ?_) (fun _ => ?_) <;> first | (exfalso; omega) | contradiction | conv => whnf)
   | (refine br_not ?_; conv => whnf)
   | (refine br_bne (fun _ => ?_) (fun _ => ?_) <;> first | (exfalso; omega) | contradiction | conv => whnf)
   | (refine br_beq (fun _ => ?_) (fun _ => ?_) <;> first | (exfalso; omega) | contradiction | conv => whnf))
  refine LoopE.mk (fun i : Nat => mk [(0, vL a), (1, vL b), (7, vI .i64 i)] []) (fun i => i ≤ a.length ∧ ∀ o ∈ a.take i, ∀ p ∈ b, p.obj = o.obj → thS p.kind = thS o.kind) (fun i => a.length - i) 0 ⟨by omega, by simp⟩ (LeX.of ?_) ?_
  ·try (conv => whnf)
   repeat (refine Need.mk ?_ ?_; (focus (first | omega | (simp; done))); conv => whnf)
   trivial
  ·rintro i ⟨hi, hk⟩
   by_cases hlt : i < a.length
   ·have c2 := s_l08KindFits b a[i] (by have := h2.len; omega)
    by_cases hkf : ∀ p ∈ b, p.obj = a[i].obj → thS p.kind = thS a[i].kind
    ·try (conv => whnf)
     repeat' (first
      | (refine Pick.mk ?_ ?_ ?_; rotate_left; (focus (first | exact List.length_map _ | (refine pick_nat _ _ _ ?_; omega))); conv => whnf)
      | (refine SeqJ.thru ?_; conv => whnf)
      | (refine br_dec (fun _ => ?_) (fun _ => ?_) <;> first | (exfalso; omega) | contradiction | conv => whnf)
      | (refine br_not ?_; conv => whnf)
      | (refine br_bne (fun _ => ?_) (fun _ => ?_) <;> first | (exfalso; omega) | contradiction | conv => whnf)
      | (refine br_beq (fun _ => ?_) (fun _ => ?_) <;> first | (exfalso; omega) | contradiction | conv => whnf))
     refine Hand.mk [] ?_
     try (conv => whnf)
     refine CallW.d (c2) ?_
     try (conv => whnf)
     try (conv => whnf)
     repeat' (first
      | (refine Pick.mk ?_ ?_ ?_; rotate_left; (focus ((refine wid ?_ ?_ <;> omega))); conv => whnf)
      | (refine br_dec (fun _ => ?_) (fun _ => ?_) <;> first | (exfalso; omega) | contradiction | conv => whnf)
      | (refine br_not ?_; conv => whnf)
      | (refine br_bne (fun _ => ?_) (fun _ => ?_) <;> first | (exfalso; omega) | contradiction | conv => whnf)
      | (refine br_beq (fun _ => ?_) (fun _ => ?_) <;> first | (exfalso; omega) | contradiction | conv => whnf))
     refine Pick.mk (i + 1) ⟨⟨by omega, all_next hlt hk hkf⟩, by omega⟩ (LeX.of ?_)
     try (conv => whnf)
     repeat (refine Need.mk ?_ ?_; (focus (first | omega | (simp; done))); conv => whnf)
     trivial
    ·have e : mergeC a b = 8 := by rw [mergeC, if_neg (by simpa using hc), if_pos fun h => hkf fun p hp e => (h _ (List.getElem_mem hlt) p hp e.symm).symm]
     have er : mergeR a b = [] := if_neg (by rw [e]; decide)
     rw [e, er]
     try (conv => whnf)
     repeat' (first
      | (refine Pick.mk ?_ ?_ ?_; rotate_left; (focus (first | exact List.length_map _ | (refine pick_nat _ _ _ ?_; omega))); conv => whnf)
      | (refine SeqJ.thru ?_; conv => whnf)
      | (refine br_dec (fun _ => ?_) (fun _ => ?_) <;> first | (exfalso; omega) | contradiction | conv => whnf)
      | (refine br_not ?_; conv => whnf)
      | (refine br_bne (fun _ => ?_) (fun _ => ?_) <;> first | (exfalso; omega) | contradiction | conv => whnf)
      | (refine br_beq (fun _ => ?_) (fun _ => ?_) <;> first | (exfalso; omega) | contradiction | conv => whnf))
     refine Hand.mk [] ?_
     try (conv => whnf)
     refine CallW.d (c2) ?_
     try (conv => whnf)
     try (conv => whnf)
     repeat' (first
      | (refine Pick.mk ?_ ?_ ?_; rotate_left; (focus ((simp only [chunks]; rfl))); conv => whnf)
      | (refine br_dec (fun _ => ?_) (fun _ => ?_) <;> first | (exfalso; omega) | contradiction | conv => whnf)
      | (refine br_not ?_; conv => whnf)
      | (refine br_bne (fun _ => ?_) (fun _ => ?_) <;> first | (exfalso; omega) | contradiction | conv => whnf)
      | (refine br_beq (fun _ => ?_) (fun _ => ?_) <;> first | (exfalso; omega) | contradiction | conv => whnf))
     refine Out.mk true [] [] ?_
     try (conv => whnf)
     repeat (refine Pick.mk ?_ ?_ ?_; rotate_left; (focus ((refine SlF.same ?_ ?_; (first | rfl | omega | (simp; done) | (simp; omega)); (first | exact fz_self _ _ (fun _ => rfl) | exact fz_pl rfl | (refine Fz.append ?_ ?_ <;> first | exact fz_self _ _ (fun _ => rfl) | exact fz_pl rfl) | (refine Fz.append (Fz.append ?_ ?_) ?_ <;> first | exact fz_self _ _ (fun _ => rfl) | exact fz_pl rfl))))); conv => whnf)
     exact ⟨rfl, rfl⟩
   ·have hk := all_end hk (by omega)
    have hkk : kindsOk a b := fun x hx y hy e => (hk x hx y hy e.symm).symm
    have hcn : mergeC a b = if (mergeF a b).length > 1024 then 11 else 0 := by rw [mergeC, if_neg (by simpa using hc), if_neg (by simpa using hkk)]
    have c3 := s_l08Counts a (fun o ho => (h1.good.all o ho).st.2) (by omega)
    have hcl := cnts_length a
    try (conv => whnf)
    repeat' (first
     | (refine Pick.mk ?_ ?_ ?_; rotate_left; (focus (exact List.length_map _)); conv => whnf)
     | (refine SeqJ.thru ?_; conv => whnf)
     | (refine br_dec (fun _ => ?_) (fun _ => ?_) <;> first | (exfalso; omega) | contradiction | conv => whnf)
     | (refine br_not ?_; conv => whnf)
     | (refine br_bne (fun _ => ?_) (fun _ => ?_) <;> first | (exfalso; omega) | contradiction | conv => whnf)
     | (refine br_beq (fun _ => ?_) (fun _ => ?_) <;> first | (exfalso; omega) | contradiction | conv => whnf))
    refine Hand.mk [] ?_
    try (conv => whnf)
    refine CallW.k (s_l08CopyF a (by omega) (fun o ho => by have := (h1.good.all o ho).vec.1; omega)) ?_
    try (conv => whnf)
    refine Hand.mk [] ?_
    try (conv => whnf)
    refine CallW.d (c3) ?_
    try (conv => whnf)
    refine LoopE.mk (fun x : Nat × List OpV => mk [(0, vL a), (1, vL b), (8, vL x.2), (9, .one (.ptr 45088 0)), (10, vI .i64 x.1)] [(45088, .box [.os (.v 45072) 1 0 16]), (45072, .own 1 ((cnts a).map inD))]) (fun x => x.1 ≤ b.length ∧ Put a b x.1 x.2 ∧ x.2.length ≤ 1024 + x.1) (fun x => b.length - x.1) (0, a) ⟨by omega, Put.zero h1, by simp only; omega⟩ (LeX.of ?_) ?_
    ·try (conv => whnf)
     repeat (refine Need.mk ?_ ?_; (focus (first | omega | (simp; done))); conv => whnf)
     trivial
    ·rintro ⟨i, r⟩ ⟨hi, hp, hrl⟩
     simp only at hi hp hrl ⊢
     by_cases hlt : i < b.length
     ·have hoo := h2.good.all _ (List.getElem_mem hlt)
      obtain ⟨a0, a1⟩ := hoo.st.2
      have hcg := cnts_get a (a := b[i].actor.toNat) (by omega)
      rw [show ((b[i].actor.toNat : Nat) : Int) = b[i].actor by omega] at hcg
      by_cases hs : b[i].seq > (own a b[i].actor).length
      ·try (conv => whnf)
       repeat' (first
        | (refine Need.mk ?_ ?_; (focus (omega)); conv => whnf)
        | (refine Pick.mk ?_ ?_ ?_; rotate_left; (focus (first | (with_reducible refine get_mapI _ _ _ ?_ ?_ <;> first | omega | (simp; omega)) | exact List.length_map _ | (refine pick_nat _ _ _ ?_; omega))); conv => whnf)
        | (refine SeqJ.thru ?_; conv => whnf)
        | (refine br_dec (fun _ => ?_) (fun _ => ?_) <;> first | (exfalso; omega) | contradiction | conv => whnf)
        | (refine br_not ?_; conv => whnf)
        | (refine br_bne (fun _ => ?_) (fun _ => ?_) <;> first | (exfalso; omega) | contradiction | conv => whnf)
        | (refine br_beq (fun _ => ?_) (fun _ => ?_) <;> first | (exfalso; omega) | contradiction | conv => whnf))
       refine Hand.mk [] ?_
       try (conv => whnf)
       refine CallW.k (s_l08CopyOpF b[i] (by have := hoo.vec.1; omega)) ?_
       try (conv => whnf)
       refine Hand.mk [] ?_
       try (conv => whnf)
       refine CallW.k (s_l08Insert r b[i] (by omega)) ?_
       try (conv => whnf)
       repeat (refine Pick.mk ?_ ?_ ?_; rotate_left; (focus ((refine wid ?_ ?_ <;> omega))); conv => whnf)
       refine Pick.mk (i + 1, insL r b[i]) ⟨⟨by simp only; omega, hp.put h1 h2 hlt hs, by rw [insL_length]; simp only; omega⟩, by simp only; omega⟩ (LeX.of ?_)
       try (conv => whnf)
       repeat (refine Need.mk ?_ ?_; (focus (first | omega | (simp; done))); conv => whnf)
       trivial
      ·try (conv => whnf)
       repeat' (first
        | (refine Need.mk ?_ ?_; (focus (omega)); conv => whnf)
        | (refine Pick.mk ?_ ?_ ?_; rotate_left; (focus (first | (with_reducible refine get_mapI _ _ _ ?_ ?_ <;> first | omega | (simp; omega)) | exact List.length_map _ | (refine wid ?_ ?_ <;> omega) | (refine pick_nat _ _ _ ?_; omega))); conv => whnf)
        | (refine SeqJ.thru ?_; conv => whnf)
        | (refine br_dec (fun _ => ?_) (fun _ => ?_) <;> first | (exfalso; omega) | contradiction | conv => whnf)
        | (refine br_not ?_; conv => whnf)
        | (refine br_bne (fun _ => ?_) (fun _ => ?_) <;> first | (exfalso; omega) | contradiction | conv => whnf)
        | (refine br_beq (fun _ => ?_) (fun _ => ?_) <;> first | (exfalso; omega) | contradiction | conv => whnf))
       refine Pick.mk (i + 1, r) ⟨⟨by simp only; omega, hp.skip h2 hlt (by omega), by simp only; omega⟩, by simp only; omega⟩ (LeX.of ?_)
       try (conv => whnf)
       repeat (refine Need.mk ?_ ?_; (focus (first | omega | (simp; done))); conv => whnf)
       trivial
     ·obtain rfl : i = b.length := by omega
      obtain rfl := hp.done h1 h2 hf
      by_cases hm : (mergeF a b).length > 1024
      ·rw [if_pos hm] at hcn
       rw [hcn, show mergeR a b = [] from if_neg (by rw [hcn]; decide)]
       try (conv => whnf)
       repeat' (first
        | (refine Pick.mk ?_ ?_ ?_; rotate_left; (focus (first | exact List.length_map _ | (simp only [chunks]; rfl))); conv => whnf)
        | (refine SeqJ.thru ?_; conv => whnf)
        | (refine br_dec (fun _ => ?_) (fun _ => ?_) <;> first | (exfalso; omega) | contradiction | conv => whnf)
        | (refine br_not ?_; conv => whnf)
        | (refine br_bne (fun _ => ?_) (fun _ => ?_) <;> first | (exfalso; omega) | contradiction | conv => whnf)
        | (refine br_beq (fun _ => ?_) (fun _ => ?_) <;> first | (exfalso; omega) | contradiction | conv => whnf))
       refine Out.mk true [] [] ?_
       try (conv => whnf)
       repeat (refine Pick.mk ?_ ?_ ?_; rotate_left; (focus ((refine SlF.same ?_ ?_; (first | rfl | omega | (simp; done) | (simp; omega)); (first | exact fz_self _ _ (fun _ => rfl) | exact fz_pl rfl | (refine Fz.append ?_ ?_ <;> first | exact fz_self _ _ (fun _ => rfl) | exact fz_pl rfl) | (refine Fz.append (Fz.append ?_ ?_) ?_ <;> first | exact fz_self _ _ (fun _ => rfl) | exact fz_pl rfl))))); conv => whnf)
       exact ⟨rfl, rfl⟩
      ·rw [if_neg hm] at hcn
       rw [hcn, show mergeR a b = mergeF a b from if_pos hcn]
       try (conv => whnf)
       repeat' (first
        | (refine Pick.mk ?_ ?_ ?_; rotate_left; (focus (exact List.length_map _)); conv => whnf)
        | (refine SeqJ.thru ?_; conv => whnf)
        | (refine br_dec (fun _ => ?_) (fun _ => ?_) <;> first | (exfalso; omega) | contradiction | conv => whnf)
        | (refine br_not ?_; conv => whnf)
        | (refine br_bne (fun _ => ?_) (fun _ => ?_) <;> first | (exfalso; omega) | contradiction | conv => whnf)
        | (refine br_beq (fun _ => ?_) (fun _ => ?_) <;> first | (exfalso; omega) | contradiction | conv => whnf))
       refine Out.mk true [] [] ?_
       try (conv => whnf)
       exact ⟨rfl, rfl⟩
 ·have e : mergeC a b = mcode a b := if_pos hc
  have er : mergeR a b = [] := if_neg (by rw [e]; exact hc)
  rw [e, er]
  obtain ⟨m, hm⟩ : ∃ m, m = mcode a b := ⟨_, rfl⟩
  rw [← hm] at c1 hc
  rw [← hm]
  try (conv => whnf)
  refine Hand.mk [] ?_
  try (conv => whnf)
  refine CallW.d (c1) ?_
  try (conv => whnf)
  repeat (refine SeqJ.thru ?_; conv => whnf)
  try (conv => whnf)
  repeat' (first
   | (refine Pick.mk ?_ ?_ ?_; rotate_left; (focus ((simp only [chunks]; rfl))); conv => whnf)
   | (refine br_dec (fun _ => ?_) (fun _ => ?_) <;> first | (exfalso; omega) | contradiction | conv => whnf)
   | (refine br_not ?_; conv => whnf)
   | (refine br_bne (fun _ => ?_) (fun _ => ?_) <;> first | (exfalso; omega) | contradiction | conv => whnf)
   | (refine br_beq (fun _ => ?_) (fun _ => ?_) <;> first | (exfalso; omega) | contradiction | conv => whnf))
  refine Out.mk true [] [] ?_
  try (conv => whnf)
  repeat (refine Pick.mk ?_ ?_ ?_; rotate_left; (focus ((refine SlF.same ?_ ?_; (first | rfl | omega | (simp; done) | (simp; omega)); (first | exact fz_self _ _ (fun _ => rfl) | exact fz_pl rfl | (refine Fz.append ?_ ?_ <;> first | exact fz_self _ _ (fun _ => rfl) | exact fz_pl rfl) | (refine Fz.append (Fz.append ?_ ?_) ?_ <;> first | exact fz_self _ _ (fun _ => rfl) | exact fz_pl rfl))))); conv => whnf)
  exact ⟨rfl, rfl⟩
end Go.Proofs.Ytpdjehnlejjfmaa.D
/- Two logs merged, by the program. -/
namespace Go.Proofs.Ytpdjehnlejjfmaa.D
open Go.RowKit
set_option maxRecDepth 100000
set_option maxHeartbeats 4000000
set_option linter.unusedVariables false
set_option linter.unusedSimpArgs false
abbrev cNo : CV := .dv (.sc (.pointer none))
abbrev bkR (l : List OpV) : Row := .own 120 [bookD (bookOf l)]
def Two (a b : List OpV) (res : SV) (Lo : List Row) : Prop :=
 (mcode a b = 0 ∧ res = .tup [(false, [.ep (.v 0) 120 0 0]), (false, [.ep (.v 1) 120 0 0]), (false, [cI 0])] ∧ Lo = [bkR a, bkR b]) ∨
 (mcode a b ≠ 0 ∧ res = .tup [(false, [cNo]), (false, [cNo]), (false, [cI (mcode a b)])] ∧ Lo = [])
theorem i_readTwo (a b : List OpV) (ha : ∀ o ∈ a, o.key.length ≤ 2 ^ 40 ∧ o.text.length ≤ 2 ^ 40) (hb : ∀ o ∈ b, o.key.length ≤ 2 ^ 40 ∧ o.text.length ≤ 2 ^ 40) :
  CallM Try.prog id_impl_readTwo [vL a, vL b] [] [] false (Two a b) := by
 refine F_impl_readTwo ?_
 try (conv => whnf)
 repeat' (first
  | (refine br_dec (fun _ => ?_) (fun _ => ?_) <;> first | (exfalso; omega) | contradiction | conv => whnf)
  | (refine br_not ?_; conv => whnf)
  | (refine br_bne (fun _ => ?_) (fun _ => ?_) <;> first | (exfalso; omega) | contradiction | conv => whnf)
  | (refine br_beq (fun _ => ?_) (fun _ => ?_) <;> first | (exfalso; omega) | contradiction | conv => whnf))
 refine Hand.mk [] ?_
 try (conv => whnf)
 refine CallW.n (i_readBook a ha) ?_
 rintro _ _ (⟨h1, rfl, rfl⟩ | ⟨h1, rfl, rfl⟩)
 rotate_left
 ·try (conv => whnf)
  repeat' (first
   | (refine SeqJ.thru ?_; conv => whnf)
   | (refine br_dec (fun _ => ?_) (fun _ => ?_) <;> first | (exfalso; omega) | contradiction | conv => whnf)
   | (refine br_not ?_; conv => whnf)
   | (refine br_bne (fun _ => ?_) (fun _ => ?_) <;> first | (exfalso; omega) | contradiction | conv => whnf)
   | (refine br_beq (fun _ => ?_) (fun _ => ?_) <;> first | (exfalso; omega) | contradiction | conv => whnf))
  refine Out.mk true [] [] ?_
  try (conv => whnf)
  exact ⟨.inr ⟨fun h => h1 (mcode_ok.1 h).1, by rw [show mcode a b = 1 from if_pos fun h => h1 h.1], rfl⟩⟩
 try (conv => whnf)
 repeat' (first
  | (refine SeqJ.thru ?_; conv => whnf)
  | (refine br_dec (fun _ => ?_) (fun _ => ?_) <;> first | (exfalso; omega) | contradiction | conv => whnf)
  | (refine br_not ?_; conv => whnf)
  | (refine br_bne (fun _ => ?_) (fun _ => ?_) <;> first | (exfalso; omega) | contradiction | conv => whnf)
  | (refine br_beq (fun _ => ?_) (fun _ => ?_) <;> first | (exfalso; omega) | contradiction | conv => whnf))
 refine Hand.mk [] ?_
 try (conv => whnf)
 refine CallW.n (i_readBook b hb) ?_
 rintro _ _ (⟨h2, rfl, rfl⟩ | ⟨h2, rfl, rfl⟩)
 rotate_left
 ·try (conv => whnf)
  repeat' (first
   | (refine SeqJ.thru ?_; conv => whnf)
   | (refine br_dec (fun _ => ?_) (fun _ => ?_) <;> first | (exfalso; omega) | contradiction | conv => whnf)
   | (refine br_not ?_; conv => whnf)
   | (refine br_bne (fun _ => ?_) (fun _ => ?_) <;> first | (exfalso; omega) | contradiction | conv => whnf)
   | (refine br_beq (fun _ => ?_) (fun _ => ?_) <;> first | (exfalso; omega) | contradiction | conv => whnf))
  refine Out.mk true [] [] ?_
  try (conv => whnf)
  exact ⟨.inr ⟨fun h => h2 (mcode_ok.1 h).2.1, by rw [show mcode a b = 1 from if_pos fun h => h2 h.2], rfl⟩⟩
 have hla := h1.len
 have hlb := h2.len
 have wa := bookOf_wf a
 have wb := bookOf_wf b
 try (conv => whnf)
 repeat' (first
  | (refine SeqJ.thru ?_; conv => whnf)
  | (refine br_dec (fun _ => ?_) (fun _ => ?_) <;> first | (exfalso; omega) | contradiction | conv => whnf)
  | (refine br_not ?_; conv => whnf)
  | (refine br_bne (fun _ => ?_) (fun _ => ?_) <;> first | (exfalso; omega) | contradiction | conv => whnf)
  | (refine br_beq (fun _ => ?_) (fun _ => ?_) <;> first | (exfalso; omega) | contradiction | conv => whnf))
 refine LoopE.mk (fun n : Nat => mk [(7, .one (.ep (.v 8208) 120 0 0)), (9, .one (.ep (.v 20496) 120 0 0)), (26, vI .i64 n)] [(8208, bkR a), (20496, bkR b)])
  (fun n => n ≤ 16 ∧ ∀ m : Nat, m < n → ∀ i (g1 : i < (own a m).length) (g2 : i < (own b m).length), (own a m)[i] = (own b m)[i]) (fun n => 16 - n) 0 ⟨by omega, fun m h => by omega⟩ (LeX.of ?_) ?_
 ·try (conv => whnf)
  repeat (refine Need.mk ?_ ?_; (focus (first | omega | (simp; done))); conv => whnf)
  trivial
 ·rintro n ⟨hn, hf⟩
  by_cases hlt : n < 16
  ·have ea := book_of hlt a h1.good.all
   have eb := book_of hlt b h2.good.all
   obtain ⟨A, hA⟩ : ∃ A, A = (bookOf a).of.getD n [] := ⟨_, rfl⟩
   obtain ⟨B, hB⟩ : ∃ B, B = (bookOf b).of.getD n [] := ⟨_, rfl⟩
   have e1 : A = own a n := hA.trans ea
   have e2 : B = own b n := hB.trans eb
   have hAl : ((bookOf a).of.getD n []).length = A.length := by rw [hA]
   have hBl : ((bookOf b).of.getD n []).length = B.length := by rw [hB]
   have hAle : A.length ≤ a.length := by rw [e1]; exact own_le _ _
   have hBle : B.length ≤ b.length := by rw [e2]; exact own_le _ _
   try (conv => whnf)
   repeat' (first
    | (refine SeqJ.thru ?_; conv => whnf)
    | (refine br_dec (fun _ => ?_) (fun _ => ?_) <;> first | (exfalso; omega) | contradiction | conv => whnf)
    | (refine br_not ?_; conv => whnf)
    | (refine br_bne (fun _ => ?_) (fun _ => ?_) <;> first | (exfalso; omega) | contradiction | conv => whnf)
    | (refine br_beq (fun _ => ?_) (fun _ => ?_) <;> first | (exfalso; omega) | contradiction | conv => whnf))
   refine LoopE.mk (fun i : Nat => mk [(7, .one (.ep (.v 8208) 120 0 0)), (9, .one (.ep (.v 20496) 120 0 0)), (10, vI .i64 n), (11, vI .i64 i), (26, vI .i64 n)] [(8208, bkR a), (20496, bkR b)])
    (fun i => (i ≤ A.length ∧ i ≤ B.length) ∧ ∀ j (g1 : j < A.length) (g2 : j < B.length), j < i → A[j] = B[j]) (fun i => A.length - i) 0 ⟨by omega, fun j _ _ h => by omega⟩ (LeX.of ?_) ?_
   ·try (conv => whnf)
    repeat (refine Need.mk ?_ ?_; (focus (first | omega | (simp; done))); conv => whnf)
    trivial
   ·rintro i ⟨⟨hi1, hi2⟩, he⟩
    by_cases hia : i < A.length
    ·by_cases hib : i < B.length
     ·have ga : ((bookOf a).of.getD n [])[i]'(by omega) = A[i] := by simp only [hA]
      have gb : ((bookOf b).of.getD n [])[i]'(by omega) = B[i] := by simp only [hB]
      have ma : A[i] ∈ a := by have := List.getElem_mem hia; simp only [e1] at this ⊢; exact (mem_own.1 this).1
      have mb : B[i] ∈ b := by have := List.getElem_mem hib; simp only [e2] at this ⊢; exact (mem_own.1 this).1
      have c3 := i_opSame (((bookOf a).of.getD n [])[i]'(by omega)) (((bookOf b).of.getD n [])[i]'(by omega)) (by rw [ga]; have := (h1.good.all _ ma).vec.1; omega) (by rw [gb]; have := (h2.good.all _ mb).vec.1; omega)
      by_cases hs : A[i] = B[i]
      ·have hs2 : ((bookOf a).of.getD n [])[i]'(by omega) = ((bookOf b).of.getD n [])[i]'(by omega) := by rw [ga, gb, hs]
       try (conv => whnf)
       repeat' (first
        | (refine Need.mk ?_ ?_; (focus (omega)); conv => whnf)
        | (refine Pick.mk ?_ ?_ ?_; rotate_left; (focus (first | (with_reducible refine bk_of ?_ ?_ <;> first | assumption | omega) | (with_reducible refine get_mapN _ _ _ ?_; first | omega | (simp; omega)) | ((show @Eq Nat (_ + Int.toNat _ * _) _); simp only [Int.toNat_natCast, Nat.zero_add, Nat.mul_one]; rfl) | ((show @Eq (Option _) _ _); simp only [List.getElem?_cons_zero, List.getElem?_cons_succ]; rfl))); conv => whnf)
        | (refine SeqJ.thru ?_; conv => whnf)
        | (refine br_dec (fun _ => ?_) (fun _ => ?_) <;> first | (exfalso; omega) | contradiction | conv => whnf)
        | (refine br_not ?_; conv => whnf)
        | (refine br_bne (fun _ => ?_) (fun _ => ?_) <;> first | (exfalso; omega) | contradiction | conv => whnf)
        | (refine br_beq (fun _ => ?_) (fun _ => ?_) <;> first | (exfalso; omega) | contradiction | conv => whnf))
       refine Hand.mk [] ?_
       try (conv => whnf)
       refine CallW.d (c3) ?_
       try (conv => whnf)
       try (conv => whnf)
       repeat' (first
        | (refine Pick.mk ?_ ?_ ?_; rotate_left; (focus ((refine wid ?_ ?_ <;> omega))); conv => whnf)
        | (refine br_dec (fun _ => ?_) (fun _ => ?_) <;> first | (exfalso; omega) | contradiction | conv => whnf)
        | (refine br_not ?_; conv => whnf)
        | (refine br_bne (fun _ => ?_) (fun _ => ?_) <;> first | (exfalso; omega) | contradiction | conv => whnf)
        | (refine br_beq (fun _ => ?_) (fun _ => ?_) <;> first | (exfalso; omega) | contradiction | conv => whnf))
       refine Pick.mk (i + 1) ⟨⟨by omega, fun j g1 g2 hj => by
        rcases Nat.lt_or_ge j i with g | g
        ·exact he j g1 g2 g
        ·obtain rfl : j = i := by omega
         exact hs⟩, by omega⟩ (LeX.of ?_)
       try (conv => whnf)
       repeat (refine Need.mk ?_ ?_; (focus (first | omega | (simp; done))); conv => whnf)
       trivial
      ·have hs2 : ¬ ((bookOf a).of.getD n [])[i]'(by omega) = ((bookOf b).of.getD n [])[i]'(by omega) := by rw [ga, gb]; exact hs
       have hm : mcode a b = 16 := by
        rw [mcode, if_neg (by simp [h1, h2]), if_pos]
        intro h
        have := h n hlt i (by rw [← e1]; exact hia) (by rw [← e2]; exact hib)
        simp only [← e1, ← e2] at this
        exact hs this
       try (conv => whnf)
       repeat' (first
        | (refine Need.mk ?_ ?_; (focus (omega)); conv => whnf)
        | (refine Pick.mk ?_ ?_ ?_; rotate_left; (focus (first | (with_reducible refine bk_of ?_ ?_ <;> first | assumption | omega) | (with_reducible refine get_mapN _ _ _ ?_; first | omega | (simp; omega)) | ((show @Eq Nat (_ + Int.toNat _ * _) _); simp only [Int.toNat_natCast, Nat.zero_add, Nat.mul_one]; rfl) | ((show @Eq (Option _) _ _); simp only [List.getElem?_cons_zero, List.getElem?_cons_succ]; rfl))); conv => whnf)
        | (refine SeqJ.thru ?_; conv => whnf)
        | (refine br_dec (fun _ => ?_) (fun _ => ?_) <;> first | (exfalso; omega) | contradiction | conv => whnf)
        | (refine br_not ?_; conv => whnf)
        | (refine br_bne (fun _ => ?_) (fun _ => ?_) <;> first | (exfalso; omega) | contradiction | conv => whnf)
        | (refine br_beq (fun _ => ?_) (fun _ => ?_) <;> first | (exfalso; omega) | contradiction | conv => whnf))
       refine Hand.mk [] ?_
       try (conv => whnf)
       refine CallW.d (c3) ?_
       try (conv => whnf)
       try (conv => whnf)
       repeat' (first
        | (refine br_dec (fun _ => ?_) (fun _ => ?_) <;> first | (exfalso; omega) | contradiction | conv => whnf)
        | (refine br_not ?_; conv => whnf)
        | (refine br_bne (fun _ => ?_) (fun _ => ?_) <;> first | (exfalso; omega) | contradiction | conv => whnf)
        | (refine br_beq (fun _ => ?_) (fun _ => ?_) <;> first | (exfalso; omega) | contradiction | conv => whnf))
       refine Out.mk true [] [] ?_
       try (conv => whnf)
       exact ⟨.inr ⟨by rw [hm]; decide, by rw [hm], rfl⟩⟩
     ·try (conv => whnf)
      repeat' (first
       | (refine Need.mk ?_ ?_; (focus (omega)); conv => whnf)
       | (refine Pick.mk ?_ ?_ ?_; rotate_left; (focus (first | (with_reducible refine bk_of ?_ ?_ <;> first | assumption | omega) | ((show @Eq Nat (_ + Int.toNat _ * _) _); simp only [Int.toNat_natCast, Nat.zero_add, Nat.mul_one]; rfl) | (refine wid ?_ ?_ <;> omega) | ((show @Eq (Option _) _ _); simp only [List.getElem?_cons_zero, List.getElem?_cons_succ]; rfl))); conv => whnf)
       | (refine SeqJ.thru ?_; conv => whnf)
       | (refine br_dec (fun _ => ?_) (fun _ => ?_) <;> first | (exfalso; omega) | contradiction | conv => whnf)
       | (refine br_not ?_; conv => whnf)
       | (refine br_bne (fun _ => ?_) (fun _ => ?_) <;> first | (exfalso; omega) | contradiction | conv => whnf)
       | (refine br_beq (fun _ => ?_) (fun _ => ?_) <;> first | (exfalso; omega) | contradiction | conv => whnf))
      refine Pick.mk (n + 1) ⟨⟨by omega, fun m hm j g1 g2 => by
       rcases Nat.lt_or_ge m n with g | g
       ·exact hf m g j g1 g2
       ·obtain rfl : m = n := by omega
        have g3 : j < A.length := by rw [e1]; exact g1
        have g4 : j < B.length := by rw [e2]; exact g2
        have := he j g3 g4 (by omega)
        simp only [e1, e2] at this; exact this⟩, by omega⟩ (LeX.of ?_)
      try (conv => whnf)
      repeat (refine Need.mk ?_ ?_; (focus (first | omega | (simp; done))); conv => whnf)
      trivial
    ·try (conv => whnf)
     repeat' (first
      | (refine Need.mk ?_ ?_; (focus (omega)); conv => whnf)
      | (refine Pick.mk ?_ ?_ ?_; rotate_left; (focus (first | (with_reducible refine bk_of ?_ ?_ <;> first | assumption | omega) | ((show @Eq Nat (_ + Int.toNat _ * _) _); simp only [Int.toNat_natCast, Nat.zero_add, Nat.mul_one]; rfl) | (refine wid ?_ ?_ <;> omega) | ((show @Eq (Option _) _ _); simp only [List.getElem?_cons_zero, List.getElem?_cons_succ]; rfl))); conv => whnf)
      | (refine SeqJ.thru ?_; conv => whnf)
      | (refine br_dec (fun _ => ?_) (fun _ => ?_) <;> first | (exfalso; omega) | contradiction | conv => whnf)
      | (refine br_not ?_; conv => whnf)
      | (refine br_bne (fun _ => ?_) (fun _ => ?_) <;> first | (exfalso; omega) | contradiction | conv => whnf)
      | (refine br_beq (fun _ => ?_) (fun _ => ?_) <;> first | (exfalso; omega) | contradiction | conv => whnf))
     refine Pick.mk (n + 1) ⟨⟨by omega, fun m hm j g1 g2 => by
      rcases Nat.lt_or_ge m n with g | g
      ·exact hf m g j g1 g2
      ·obtain rfl : m = n := by omega
       have g3 : j < A.length := by rw [e1]; exact g1
       have g4 : j < B.length := by rw [e2]; exact g2
       have := he j g3 g4 (by omega)
       simp only [e1, e2] at this; exact this⟩, by omega⟩ (LeX.of ?_)
     try (conv => whnf)
     repeat (refine Need.mk ?_ ?_; (focus (first | omega | (simp; done))); conv => whnf)
     trivial
  ·have hfk : noFork a b := fun m hm => hf m (by omega)
   try (conv => whnf)
   repeat' (first
    | (refine SeqJ.thru ?_; conv => whnf)
    | (refine br_dec (fun _ => ?_) (fun _ => ?_) <;> first | (exfalso; omega) | contradiction | conv => whnf)
    | (refine br_not ?_; conv => whnf)
    | (refine br_bne (fun _ => ?_) (fun _ => ?_) <;> first | (exfalso; omega) | contradiction | conv => whnf)
    | (refine br_beq (fun _ => ?_) (fun _ => ?_) <;> first | (exfalso; omega) | contradiction | conv => whnf))
   refine Out.mk false [0, 1, 2, 3, 4] [] ?_
   try (conv => whnf)
   exact ⟨.inl ⟨mcode_ok.2 ⟨h1, h2, hfk⟩, rfl, rfl⟩⟩
def aheadL (a b : List OpV) : List OpV := (List.range 16).flatMap fun n : Nat => (own a n).drop (own b n).length
def aheadK (a b : List OpV) (k : Nat) : List OpV := (List.range k).flatMap fun n : Nat => (own a n).drop (own b n).length
theorem aheadK_succ (a b : List OpV) (k : Nat) : aheadK a b (k + 1) = aheadK a b k ++ (own a k).drop (own b k).length := by simp [aheadK, List.range_succ, List.flatMap_append]
theorem i_ahead (a b : List OpV) (h1 : LogOk a) (h2 : LogOk b) :
  CallN Try.prog id_impl_book_ahead [.one (.ep (.v 0) 120 0 0), .one (.ep (.v 1) 120 0 0)] [bkR a, bkR b] [] (.one (.os (.v 2) 12 0 (aheadL a b).length)) [bkR a, bkR b, .own 12 ((aheadL a b).map oO)] := by
 refine F_impl_book_ahead ?_
 have hla := h1.len
 have hlb := h2.len
 have wa := bookOf_wf a
 have wb := bookOf_wf b
 try (conv => whnf)
 refine LoopE.mk (fun x : Nat × List OpV => mk [(0, .one (.ep (.v 0) 120 0 0)), (1, .one (.ep (.v 1) 120 0 0)), (5, .one (.os (.v 37056) 12 0 x.2.length)), (8, vI .i64 x.1)] [(0, bkR a), (1, bkR b), (37056, .own 12 (x.2.map oO))])
  (fun x => x.1 ≤ 16 ∧ x.2 = aheadK a b x.1 ∧ x.2.length ≤ 1024 * x.1) (fun x => 16 - x.1) (0, []) ⟨by omega, rfl, by simp⟩ (LeX.of ?_) ?_
 ·try (conv => whnf)
  repeat (refine Need.mk ?_ ?_; (focus (first | omega | (simp; done))); conv => whnf)
  trivial
 ·rintro ⟨n, r⟩ ⟨hn, hr, hrl⟩
  simp only at hn hr hrl ⊢
  by_cases hlt : n < 16
  ·have ea := book_of hlt a h1.good.all
   have eb := book_of hlt b h2.good.all
   obtain ⟨A, hA⟩ : ∃ A, A = (bookOf a).of.getD n [] := ⟨_, rfl⟩
   have e1 : A = own a n := hA.trans ea
   have hAl : ((bookOf a).of.getD n []).length = A.length := by rw [hA]
   have hBl : ((bookOf b).of.getD n []).length = (own b n).length := by rw [eb]
   have hAle : A.length ≤ a.length := by rw [e1]; exact own_le _ _
   have hBle : (own b n).length ≤ b.length := own_le _ _
   try (conv => whnf)
   repeat' (first
    | (refine Need.mk ?_ ?_; (focus (omega)); conv => whnf)
    | (refine Pick.mk ?_ ?_ ?_; rotate_left; (focus (first | (with_reducible refine bk_of ?_ ?_ <;> first | assumption | omega) | ((show @Eq Nat (_ + Int.toNat _ * _) _); simp only [Int.toNat_natCast, Nat.zero_add, Nat.mul_one]; rfl) | ((show @Eq (Option _) _ _); simp only [List.getElem?_cons_zero, List.getElem?_cons_succ]; rfl))); conv => whnf)
    | (refine SeqJ.thru ?_; conv => whnf)
    | (refine br_dec (fun _ => ?_) (fun _ => ?_) <;> first | (exfalso; omega) | contradiction | conv => whnf)
    | (refine br_not ?_; conv => whnf)
    | (refine br_bne (fun _ => ?_) (fun _ => ?_) <;> first | (exfalso; omega) | contradiction | conv => whnf)
    | (refine br_beq (fun _ => ?_) (fun _ => ?_) <;> first | (exfalso; omega) | contradiction | conv => whnf))
   refine LoopE.mk (fun x : Nat × List OpV => mk [(0, .one (.ep (.v 0) 120 0 0)), (1, .one (.ep (.v 1) 120 0 0)), (5, .one (.os (.v 37056) 12 0 x.2.length)), (6, vI .i64 n), (7, vI .i64 x.1), (8, vI .i64 n)] [(0, bkR a), (1, bkR b), (37056, .own 12 (x.2.map oO))])
    (fun x => ((own b n).length ≤ x.1 ∧ (x.1 ≤ A.length ∨ x.1 = (own b n).length)) ∧ x.2 = r ++ (A.take x.1).drop (own b n).length ∧ x.2.length ≤ 1024 * n + x.1) (fun x => A.length - x.1) ((own b n).length, r) ⟨by omega, by simp, by simp only; omega⟩ (LeX.of ?_) ?_
   ·try (conv => whnf)
    repeat (refine Need.mk ?_ ?_; (focus (first | omega | (simp; done))); conv => whnf)
    trivial
   ·rintro ⟨i, r2⟩ ⟨hi, hr2, hr2l⟩
    simp only at hi hr2 hr2l ⊢
    by_cases hia : i < A.length
    ·have ga : ((bookOf a).of.getD n [])[i]'(by omega) = A[i] := by simp only [hA]
     have ma : A[i] ∈ a := by have := List.getElem_mem hia; simp only [e1] at this ⊢; exact (mem_own.1 this).1
     try (conv => whnf)
     repeat' (first
      | (refine Need.mk ?_ ?_; (focus (omega)); conv => whnf)
      | (refine Pick.mk ?_ ?_ ?_; rotate_left; (focus (first | (with_reducible refine bk_of ?_ ?_ <;> first | assumption | omega) | (with_reducible refine get_mapN _ _ _ ?_; first | omega | (simp; omega)) | ((show @Eq Nat (_ + Int.toNat _ * _) _); simp only [Int.toNat_natCast, Nat.zero_add, Nat.mul_one]; rfl) | ((show @Eq (Option _) _ _); simp only [List.getElem?_cons_zero, List.getElem?_cons_succ]; rfl))); conv => whnf)
      | (refine SeqJ.thru ?_; conv => whnf)
      | (refine br_dec (fun _ => ?_) (fun _ => ?_) <;> first | (exfalso; omega) | contradiction | conv => whnf)
      | (refine br_not ?_; conv => whnf)
      | (refine br_bne (fun _ => ?_) (fun _ => ?_) <;> first | (exfalso; omega) | contradiction | conv => whnf)
      | (refine br_beq (fun _ => ?_) (fun _ => ?_) <;> first | (exfalso; omega) | contradiction | conv => whnf))
     refine Hand.mk [] ?_
     try (conv => whnf)
     refine CallW.d (i_opCopy (((bookOf a).of.getD n [])[i]'(by omega)) (by rw [ga]; have := (h1.good.all _ ma).vec.1; omega)) ?_
     try (conv => whnf)
     repeat (first
      | (refine Need.mk ?_ ?_; (focus (first | (simp; done) | (simp; omega) | (first | exact fz_self _ _ (fun _ => rfl) | exact fz_pl rfl | (refine Fz.append ?_ ?_ <;> first | exact fz_self _ _ (fun _ => rfl) | exact fz_pl rfl) | (refine Fz.append (Fz.append ?_ ?_) ?_ <;> first | exact fz_self _ _ (fun _ => rfl) | exact fz_pl rfl)))); conv => whnf)
      | (refine Pick.mk ?_ ?_ ?_; rotate_left; (focus (first | (simp only [List.length_map, List.length_append, List.length_cons, List.length_nil, List.length_replicate, Nat.zero_add]; rfl) | (simp only [chunks]; rfl) | (refine wid ?_ ?_ <;> omega) | (refine SlOf.full ?_; first | (simp; done) | (simp; omega)))); conv => whnf)
      | (refine OwnQ.mk true ?_; conv => whnf))
     refine Pick.mk (i + 1, r2 ++ [A[i]]) ⟨⟨by simp only; omega, by rw [hr2, List.take_succ_eq_append_getElem hia, List.drop_append_of_le_length (by simp; omega), List.append_assoc], by simp; omega⟩, by simp only; omega⟩ (LeX.of ?_)
     try (conv => whnf)
     repeat (refine Need.mk ?_ ?_; (focus (first | omega | (simp; done) | rfl)); conv => whnf)
     refine Need.mk (by simp only [ga, List.map_append]; rfl) ?_
     try (conv => whnf)
     trivial
    ·try (conv => whnf)
     repeat' (first
      | (refine Need.mk ?_ ?_; (focus (omega)); conv => whnf)
      | (refine Pick.mk ?_ ?_ ?_; rotate_left; (focus (first | (with_reducible refine bk_of ?_ ?_ <;> first | assumption | omega) | ((show @Eq Nat (_ + Int.toNat _ * _) _); simp only [Int.toNat_natCast, Nat.zero_add, Nat.mul_one]; rfl) | (refine wid ?_ ?_ <;> omega) | ((show @Eq (Option _) _ _); simp only [List.getElem?_cons_zero, List.getElem?_cons_succ]; rfl))); conv => whnf)
      | (refine SeqJ.thru ?_; conv => whnf)
      | (refine br_dec (fun _ => ?_) (fun _ => ?_) <;> first | (exfalso; omega) | contradiction | conv => whnf)
      | (refine br_not ?_; conv => whnf)
      | (refine br_bne (fun _ => ?_) (fun _ => ?_) <;> first | (exfalso; omega) | contradiction | conv => whnf)
      | (refine br_beq (fun _ => ?_) (fun _ => ?_) <;> first | (exfalso; omega) | contradiction | conv => whnf))
     refine Pick.mk (n + 1, r2) ⟨⟨by simp only; omega, by rw [hr2, hr, aheadK_succ, e1, List.take_of_length_le (by rw [← e1]; omega)], by simp only; omega⟩, by simp only; omega⟩ (LeX.of ?_)
     try (conv => whnf)
     repeat (refine Need.mk ?_ ?_; (focus (first | omega | (simp; done))); conv => whnf)
     trivial
  ·have e : r = aheadL a b := by rw [hr, show n = 16 by omega]; rfl
   try (conv => whnf)
   repeat' (first
    | (refine SeqJ.thru ?_; conv => whnf)
    | (refine br_dec (fun _ => ?_) (fun _ => ?_) <;> first | (exfalso; omega) | contradiction | conv => whnf)
    | (refine br_not ?_; conv => whnf)
    | (refine br_bne (fun _ => ?_) (fun _ => ?_) <;> first | (exfalso; omega) | contradiction | conv => whnf)
    | (refine br_beq (fun _ => ?_) (fun _ => ?_) <;> first | (exfalso; omega) | contradiction | conv => whnf))
   refine Out.mk false [0, 1, 2, 3, 4] [] ?_
   try (conv => whnf)
   rw [e]
   exact ⟨rfl, rfl⟩
noncomputable def aheadR (a b : List OpV) : List OpV := if mcode a b = 0 then aheadL a b else []
theorem i_BranchAhead (a b : List OpV) (ha : ∀ o ∈ a, o.key.length ≤ 2 ^ 40 ∧ o.text.length ≤ 2 ^ 40) (hb : ∀ o ∈ b, o.key.length ≤ 2 ^ 40 ∧ o.text.length ≤ 2 ^ 40) :
  CallD Try.prog id_impl_BranchAhead [vL a, vL b] [] (.tup [(false, [.os (.v 0) 12 0 (aheadR a b).length]), (false, [cI (mcode a b)])]) [.own 12 ((aheadR a b).map oO)] := by
 refine F_impl_BranchAhead ?_
 try (conv => whnf)
 refine Hand.mk [] ?_
 try (conv => whnf)
 refine CallW.n (i_readTwo a b ha hb) ?_
 rintro _ _ (⟨hc, rfl, rfl⟩ | ⟨hc, rfl, rfl⟩)
 ·obtain ⟨h1, h2, hf⟩ := mcode_ok.1 hc
  rw [show aheadR a b = aheadL a b from if_pos hc, hc]
  try (conv => whnf)
  repeat' (first
   | (refine SeqJ.thru ?_; conv => whnf)
   | (refine br_dec (fun _ => ?_) (fun _ => ?_) <;> first | (exfalso; omega) | contradiction | conv => whnf)
   | (refine br_not ?_; conv => whnf)
   | (refine br_bne (fun _ => ?_) (fun _ => ?_) <;> first | (exfalso; omega) | contradiction | conv => whnf)
   | (refine br_beq (fun _ => ?_) (fun _ => ?_) <;> first | (exfalso; omega) | contradiction | conv => whnf))
  refine Hand.mk [] ?_
  try (conv => whnf)
  refine CallW.k (i_ahead a b h1 h2) ?_
  try (conv => whnf)
  refine Out.mk false [0, 1, 2, 3, 4] [] ?_
  try (conv => whnf)
  repeat (refine Need.mk ?_ ?_; (focus (exact flat_oO _)); conv => whnf)
  exact ⟨rfl, rfl⟩
 ·rw [show aheadR a b = [] from if_neg hc]
  obtain ⟨m, hm⟩ : ∃ m, m = mcode a b := ⟨_, rfl⟩
  rw [← hm] at hc
  rw [← hm]
  try (conv => whnf)
  repeat' (first
   | (refine SeqJ.thru ?_; conv => whnf)
   | (refine br_dec (fun _ => ?_) (fun _ => ?_) <;> first | (exfalso; omega) | contradiction | conv => whnf)
   | (refine br_not ?_; conv => whnf)
   | (refine br_bne (fun _ => ?_) (fun _ => ?_) <;> first | (exfalso; omega) | contradiction | conv => whnf)
   | (refine br_beq (fun _ => ?_) (fun _ => ?_) <;> first | (exfalso; omega) | contradiction | conv => whnf))
  refine Out.mk false [0, 1, 2, 3, 4] [(0, 12)] ?_
  try (conv => whnf)
  repeat (refine Need.mk ?_ ?_; (focus ((first | exact flat_by _ | exact flat_in _ | exact flat_st _ | exact flat_ts _ | exact flat_bo _ | exact flat_cl rfl))); conv => whnf)
  exact ⟨rfl, rfl⟩
end Go.Proofs.Ytpdjehnlejjfmaa.D
/- Two logs merged, by the program: the whole. -/
namespace Go.Proofs.Ytpdjehnlejjfmaa.D
open Go.RowKit
set_option maxRecDepth 100000
set_option maxHeartbeats 4000000
set_option linter.unusedVariables false
set_option linter.unusedSimpArgs false
theorem bk_kds {b : BookV} (h : b.Wf) : 16 + 101 ≤ (bookD b).length ∧ ((bookD b).drop 16).take 101 = b.kd.map dI := by
 have h1 := h.of; have h2 := h.kd
 refine ⟨by rw [h.len]; omega, ?_⟩
 simp only [bookD]
 rw [List.drop_append_of_le_length (by simp; omega), List.drop_of_length_le (by simp; omega), List.nil_append, List.take_append_of_le_length (by simp; omega), List.take_of_length_le (by simp; omega)]
theorem kd_clash {a b : List OpV} (h1 : LogOk a) (h2 : LogOk b) : kindsOk a b ↔ ∀ j, j < 101 → ¬ ((kdOf thI a).getD j 0 ≠ 0 ∧ (kdOf thI b).getD j 0 ≠ 0 ∧ (kdOf thI b).getD j 0 ≠ (kdOf thI a).getD j 0) := by
 constructor
 ·rintro h j hj ⟨g1, g2, g3⟩
  rcases kdOf_val thI hj a h1.good.all with ⟨_, e⟩ | ⟨x, hx, ex, e⟩
  ·exact g1 e
  rcases kdOf_val thI hj b h2.good.all with ⟨_, e'⟩ | ⟨y, hy, ey, e'⟩
  ·exact g2 e'
  rw [e, e'] at g3
  exact g3 ((th_iff (h1.good.all x hx).kinds (h2.good.all y hy).kinds).2 (h x hx y hy (by rw [ex, ey]))).symm
 ·intro h x hx y hy e
  have hob := (h1.good.all x hx).obj
  have hk := h x.obj.toNat (by omega)
  have kx := (kd_iff (th := thI) (fun k => thI_ne) h1.good.all h1.same (h1.good.all x hx)).2 (fun z hz ez => h1.same z hz x hx ez)
  have ky := (kd_iff (th := thI) (fun k => thI_ne) h2.good.all h2.same (h2.good.all y hy)).2 (fun z hz ez => h2.same z hz y hy ez)
  rw [← e] at ky
  rcases kdOf_val thI (show x.obj.toNat < 101 by omega) a h1.good.all with ⟨n, _⟩ | ⟨x', hx', ex', e'⟩
  ·exact absurd (show x.obj = ((x.obj.toNat : Nat) : Int) by omega) (n x hx)
  rcases kdOf_val thI (show x.obj.toNat < 101 by omega) b h2.good.all with ⟨n, _⟩ | ⟨y', hy', ey', e''⟩
  ·exact absurd (show y.obj = ((x.obj.toNat : Nat) : Int) by omega) (n y hy)
  have nx := thI_ne (h1.good.all x' hx').kinds
  have ny := thI_ne (h2.good.all y' hy').kinds
  rw [e', e''] at hk
  have : thI y'.kind = thI x'.kind := Classical.byContradiction fun g => hk ⟨nx, ny, g⟩
  have s1 := h1.same x' hx' x hx (by omega)
  have s2 := h2.same y' hy' y hy (by omega)
  exact (th_iff (h1.good.all x hx).kinds (h2.good.all y hy).kinds).1 (by omega)
theorem dI_at (l : List Int) (i : Nat) (h : i < l.length) : (l.map dI)[i]? = some (dI (l.getD i 0)) := by
 rw [List.getElem?_map, List.getElem?_eq_getElem h, List.getD_eq_getElem?_getD, List.getElem?_eq_getElem h]; rfl
theorem plain_dI (l : List Int) : ∀ d ∈ l.map dI, plainD d = true := fun d hd => by obtain ⟨x, _, rfl⟩ := List.mem_map.1 hd; rfl
def MergeP (a b : List OpV) (res : SV) (Lo : List Row) : Prop :=
 (mergeC a b = 0 ∧ res = .tup [(false, [.ep (.v 0) 120 0 0]), (false, [.ep (.v 1) 120 0 0]), (false, [.os (.v 2) 12 0 (mergeF a b).length]), (false, [cI 0])] ∧ Lo = [bkR a, bkR b, .own 12 ((mergeF a b).map oO)]) ∨
 (mergeC a b ≠ 0 ∧ res = .tup [(false, [cNo]), (false, [cNo]), (false, [.nil]), (false, [cI (mergeC a b)])] ∧ Lo = [])
def mergeK (a b : List OpV) (k : Nat) : List OpV := (List.range k).flatMap (longer a b)
theorem mergeK_succ (a b : List OpV) (k : Nat) : mergeK a b (k + 1) = mergeK a b k ++ longer a b k := by simp [mergeK, List.range_succ, List.flatMap_append]
theorem i_merge (a b : List OpV) (ha : ∀ o ∈ a, o.key.length ≤ 2 ^ 40 ∧ o.text.length ≤ 2 ^ 40) (hb : ∀ o ∈ b, o.key.length ≤ 2 ^ 40 ∧ o.text.length ≤ 2 ^ 40) :
  CallM Try.prog id_impl_merge [vL a, vL b] [] [] false (MergeP a b) := by
 refine F_impl_merge ?_
 try (conv => whnf)
 refine Hand.mk [] ?_
 try (conv => whnf)
 refine CallW.n (i_readTwo a b ha hb) ?_
 rintro _ _ (⟨hc, rfl, rfl⟩ | ⟨hc, rfl, rfl⟩)
 rotate_left
 ·have e : mergeC a b = mcode a b := if_pos hc
  obtain ⟨m, hm⟩ : ∃ m, m = mcode a b := ⟨_, rfl⟩
  rw [← hm] at hc e
  rw [← hm]
  try (conv => whnf)
  repeat' (first
   | (refine SeqJ.thru ?_; conv => whnf)
   | (refine br_dec (fun _ => ?_) (fun _ => ?_) <;> first | (exfalso; omega) | contradiction | conv => whnf)
   | (refine br_not ?_; conv => whnf)
   | (refine br_bne (fun _ => ?_) (fun _ => ?_) <;> first | (exfalso; omega) | contradiction | conv => whnf)
   | (refine br_beq (fun _ => ?_) (fun _ => ?_) <;> first | (exfalso; omega) | contradiction | conv => whnf))
  refine Out.mk false [0, 1, 2, 3, 4] [] ?_
  try (conv => whnf)
  exact ⟨.inr ⟨by rw [e]; exact hc, by rw [e], rfl⟩⟩
 obtain ⟨h1, h2, hf⟩ := mcode_ok.1 hc
 have hla := h1.len
 have hlb := h2.len
 have wa := bookOf_wf a
 have wb := bookOf_wf b
 have ka := wa.kd
 have kb := wb.kd
 try (conv => whnf)
 repeat' (first
  | (refine Need.mk ?_ ?_; (focus (exact plain_dI _)); conv => whnf)
  | (refine Pick.mk ?_ ?_ ?_; rotate_left; (focus (first | (with_reducible refine bk_kds ?_; assumption) | ((show @Eq (Option _) _ _); simp only [List.getElem?_cons_zero, List.getElem?_cons_succ]; rfl))); conv => whnf)
  | (refine SeqJ.thru ?_; conv => whnf)
  | (refine br_dec (fun _ => ?_) (fun _ => ?_) <;> first | (exfalso; omega) | contradiction | conv => whnf)
  | (refine br_not ?_; conv => whnf)
  | (refine br_bne (fun _ => ?_) (fun _ => ?_) <;> first | (exfalso; omega) | contradiction | conv => whnf)
  | (refine br_beq (fun _ => ?_) (fun _ => ?_) <;> first | (exfalso; omega) | contradiction | conv => whnf))
 refine LoopE.mk (fun j : Nat => mk [(8, .one (.ep (.v 8224) 120 0 0)), (9, .one (.ep (.v 8225) 120 0 0)), (31, .arr ((bookOf a).kd.map dI)), (32, vI .i64 j)] [(8224, bkR a), (8225, bkR b)])
  (fun j => j ≤ 101 ∧ ∀ i, i < j → ¬ ((bookOf a).kd.getD i 0 ≠ 0 ∧ (bookOf b).kd.getD i 0 ≠ 0 ∧ (bookOf b).kd.getD i 0 ≠ (bookOf a).kd.getD i 0)) (fun j => 101 - j) 0 ⟨by omega, fun i h => by omega⟩ (LeX.of ?_) ?_
 ·try (conv => whnf)
  repeat (refine Need.mk ?_ ?_; (focus (first | omega | (simp; done))); conv => whnf)
  trivial
 ·rintro j ⟨hj, hk⟩
  by_cases hjlt : j < 101
  ·have step : ¬ ((bookOf a).kd.getD j 0 ≠ 0 ∧ (bookOf b).kd.getD j 0 ≠ 0 ∧ (bookOf b).kd.getD j 0 ≠ (bookOf a).kd.getD j 0) → ∀ i, i < j + 1 → ¬ ((bookOf a).kd.getD i 0 ≠ 0 ∧ (bookOf b).kd.getD i 0 ≠ 0 ∧ (bookOf b).kd.getD i 0 ≠ (bookOf a).kd.getD i 0) := fun g i hi => by
    rcases Nat.lt_or_ge i j with g1 | g1
    ·exact hk i g1
    ·obtain rfl : i = j := by omega
     exact g
   try (conv => whnf)
   repeat' (first
    | (refine Need.mk ?_ ?_; (focus (omega)); conv => whnf)
    | (refine Pick.mk ?_ ?_ ?_; rotate_left; (focus (first | ((try simp only [Int.toNat_natCast, Nat.mul_one]); with_reducible refine dI_at _ _ ?_; omega) | (with_reducible refine bk_kd ?_ ?_ <;> first | assumption | omega) | ((show @Eq Nat (_ + Int.toNat _ * _) _); simp only [Int.toNat_natCast, Nat.zero_add, Nat.mul_one]; rfl) | (refine wid ?_ ?_ <;> omega) | ((show @Eq (Option _) _ _); simp only [List.getElem?_cons_zero, List.getElem?_cons_succ]; rfl))); conv => whnf)
    | (refine SeqJ.thru ?_; conv => whnf)
    | (refine br_dec (fun _ => ?_) (fun _ => ?_) <;> first | (exfalso; omega) | contradiction | conv => whnf)
    | (refine br_not ?_; conv => whnf)
    | (refine br_bne (fun _ => ?_) (fun _ => ?_) <;> first | (exfalso; omega) | contradiction | conv => whnf)
    | (refine br_beq (fun _ => ?_) (fun _ => ?_) <;> first | (exfalso; omega) | contradiction | conv => whnf))
   ·refine Pick.mk (j + 1) ⟨⟨by omega, step (by intro ⟨_, _, _⟩; first | contradiction | omega)⟩, by omega⟩ (LeX.of ?_)
    try (conv => whnf)
    repeat (refine Need.mk ?_ ?_; (focus (first | omega | (simp; done))); conv => whnf)
    trivial
   ·refine Pick.mk (j + 1) ⟨⟨by omega, step (by intro ⟨_, _, _⟩; first | contradiction | omega)⟩, by omega⟩ (LeX.of ?_)
    try (conv => whnf)
    repeat (refine Need.mk ?_ ?_; (focus (first | omega | (simp; done))); conv => whnf)
    trivial
   ·refine Pick.mk (j + 1) ⟨⟨by omega, step (by intro ⟨_, _, _⟩; first | contradiction | omega)⟩, by omega⟩ (LeX.of ?_)
    try (conv => whnf)
    repeat (refine Need.mk ?_ ?_; (focus (first | omega | (simp; done))); conv => whnf)
    trivial
   ·have hno : ¬ kindsOk a b := fun g => by
     have := (kd_clash h1 h2).1 g j hjlt
     rw [← book_kd, ← book_kd] at this
     exact this ⟨by assumption, by assumption, by assumption⟩
    refine Out.mk false [0, 1, 2, 3, 4] [] ?_
    try (conv => whnf)
    exact ⟨.inr ⟨by rw [mergeC, if_neg (by rw [hc]; decide), if_pos hno]; decide, by rw [mergeC, if_neg (by rw [hc]; decide), if_pos hno], rfl⟩⟩
  ·have hkk : kindsOk a b := (kd_clash h1 h2).2 (by rw [← book_kd, ← book_kd]; exact fun i hi => hk i (by omega))
   try (conv => whnf)
   repeat' (first
    | (refine SeqJ.thru ?_; conv => whnf)
    | (refine br_dec (fun _ => ?_) (fun _ => ?_) <;> first | (exfalso; omega) | contradiction | conv => whnf)
    | (refine br_not ?_; conv => whnf)
    | (refine br_bne (fun _ => ?_) (fun _ => ?_) <;> first | (exfalso; omega) | contradiction | conv => whnf)
    | (refine br_beq (fun _ => ?_) (fun _ => ?_) <;> first | (exfalso; omega) | contradiction | conv => whnf))
   refine LoopE.mk (fun x : Nat × List OpV => mk [(8, .one (.ep (.v 8224) 120 0 0)), (9, .one (.ep (.v 8225) 120 0 0)), (13, .one (.os (.v 86080) 12 0 x.2.length)), (58, vI .i64 x.1)] [(8224, bkR a), (8225, bkR b), (86080, .own 12 (x.2.map oO))])
    (fun x => x.1 ≤ 16 ∧ x.2 = mergeK a b x.1 ∧ x.2.length ≤ 1024 * x.1) (fun x => 16 - x.1) (0, []) ⟨by omega, rfl, by simp⟩ (LeX.of ?_) ?_
   ·try (conv => whnf)
    repeat (refine Need.mk ?_ ?_; (focus (first | omega | (simp; done))); conv => whnf)
    trivial
   ·rintro ⟨n, r⟩ ⟨hn, hr, hrl⟩
    simp only at hn hr hrl ⊢
    by_cases hlt : n < 16
    ·have ea := book_of hlt a h1.good.all
     have eb := book_of hlt b h2.good.all
     obtain ⟨A, hA⟩ : ∃ A, A = (bookOf a).of.getD n [] := ⟨_, rfl⟩
     obtain ⟨B, hB⟩ : ∃ B, B = (bookOf b).of.getD n [] := ⟨_, rfl⟩
     have e1 : A = own a n := hA.trans ea
     have e2 : B = own b n := hB.trans eb
     have hAl : ((bookOf a).of.getD n []).length = A.length := by rw [hA]
     have hBl : ((bookOf b).of.getD n []).length = B.length := by rw [hB]
     have hAle : A.length ≤ a.length := by rw [e1]; exact own_le _ _
     have hBle : B.length ≤ b.length := by rw [e2]; exact own_le _ _
     try (conv => whnf)
     repeat' (first
      | (refine Need.mk ?_ ?_; (focus (omega)); conv => whnf)
      | (refine Pick.mk ?_ ?_ ?_; rotate_left; (focus (first | (with_reducible refine bk_of ?_ ?_ <;> first | assumption | omega) | ((show @Eq Nat (_ + Int.toNat _ * _) _); simp only [Int.toNat_natCast, Nat.zero_add, Nat.mul_one]; rfl) | ((show @Eq (Option _) _ _); simp only [List.getElem?_cons_zero, List.getElem?_cons_succ]; rfl))); conv => whnf)
      | (refine SeqJ.thru ?_; conv => whnf)
      | (refine br_dec (fun _ => ?_) (fun _ => ?_) <;> first | (exfalso; omega) | contradiction | conv => whnf)
      | (refine br_not ?_; conv => whnf)
      | (refine br_bne (fun _ => ?_) (fun _ => ?_) <;> first | (exfalso; omega) | contradiction | conv => whnf)
      | (refine br_beq (fun _ => ?_) (fun _ => ?_) <;> first | (exfalso; omega) | contradiction | conv => whnf))
     ·have hL : longer a b n = B := by rw [longer, if_pos (by rw [← e1, ← e2]; omega), e2]
      refine LoopE.mk (fun x : Nat × List OpV => mk [(8, .one (.ep (.v 8224) 120 0 0)), (9, .one (.ep (.v 8225) 120 0 0)), (13, .one (.os (.v 86080) 12 0 x.2.length)), (14, vI .i64 n), (58, vI .i64 n), (83, .one (.os (.h 8225 0 n) 12 0 ((bookOf b).of.getD n []).length)), (84, vI .i64 ((bookOf b).of.getD n []).length), (85, vI .i64 x.1)] [(8224, bkR a), (8225, bkR b), (86080, .own 12 (x.2.map oO))])
       (fun x => x.1 ≤ B.length ∧ x.2 = r ++ B.take x.1 ∧ x.2.length ≤ 1024 * n + x.1) (fun x => B.length - x.1) (0, r) ⟨by simp only; omega, by simp, by simp only; omega⟩ (LeX.of ?_) ?_
      ·try (conv => whnf)
       repeat (refine Need.mk ?_ ?_; (focus (first | omega | (simp; done))); conv => whnf)
       trivial
      ·rintro ⟨i, r2⟩ ⟨hi, hr2, hr2l⟩
       simp only at hi hr2 hr2l ⊢
       by_cases hia : i < B.length
       ·have ga : ((bookOf b).of.getD n [])[i]'(by omega) = B[i] := by simp only [hB]
        have ma : B[i] ∈ b := by have := List.getElem_mem hia; simp only [e2] at this ⊢; exact (mem_own.1 this).1
        try (conv => whnf)
        repeat' (first
         | (refine Need.mk ?_ ?_; (focus (omega)); conv => whnf)
         | (refine Pick.mk ?_ ?_ ?_; rotate_left; (focus (first | (with_reducible refine bk_of ?_ ?_ <;> first | assumption | omega) | (with_reducible refine get_mapN _ _ _ ?_; first | omega | (simp; omega)) | ((show @Eq (Option _) _ _); simp only [List.getElem?_cons_zero, List.getElem?_cons_succ]; rfl))); conv => whnf)
         | (refine SeqJ.thru ?_; conv => whnf)
         | (refine br_dec (fun _ => ?_) (fun _ => ?_) <;> first | (exfalso; omega) | contradiction | conv => whnf)
         | (refine br_not ?_; conv => whnf)
         | (refine br_bne (fun _ => ?_) (fun _ => ?_) <;> first | (exfalso; omega) | contradiction | conv => whnf)
         | (refine br_beq (fun _ => ?_) (fun _ => ?_) <;> first | (exfalso; omega) | contradiction | conv => whnf))
        refine Hand.mk [] ?_
        try (conv => whnf)
        refine CallW.d (i_opCopy (((bookOf b).of.getD n [])[i]'(by omega)) (by rw [ga]; have := (h2.good.all _ ma).vec.1; omega)) ?_
        try (conv => whnf)
        repeat (first
         | (refine Need.mk ?_ ?_; (focus (first | (simp; done) | (simp; omega) | (first | exact fz_self _ _ (fun _ => rfl) | exact fz_pl rfl | (refine Fz.append ?_ ?_ <;> first | exact fz_self _ _ (fun _ => rfl) | exact fz_pl rfl) | (refine Fz.append (Fz.append ?_ ?_) ?_ <;> first | exact fz_self _ _ (fun _ => rfl) | exact fz_pl rfl)))); conv => whnf)
         | (refine Pick.mk ?_ ?_ ?_; rotate_left; (focus (first | (simp only [List.length_map, List.length_append, List.length_cons, List.length_nil, List.length_replicate, Nat.zero_add]; rfl) | (simp only [chunks]; rfl) | (refine wid ?_ ?_ <;> omega) | (refine SlOf.full ?_; first | (simp; done) | (simp; omega)))); conv => whnf)
         | (refine OwnQ.mk true ?_; conv => whnf))
        refine Pick.mk (i + 1, r2 ++ [B[i]]) ⟨⟨by simp only; omega, by rw [hr2, List.take_succ_eq_append_getElem hia, List.append_assoc], by simp; omega⟩, by simp only; omega⟩ (LeX.of ?_)
        try (conv => whnf)
        repeat (refine Need.mk ?_ ?_; (focus (first | omega | (simp; done) | rfl)); conv => whnf)
        refine Need.mk (by simp only [ga, List.map_append]; rfl) ?_
        try (conv => whnf)
        trivial
       ·try (conv => whnf)
        repeat' (first
         | (refine Pick.mk ?_ ?_ ?_; rotate_left; (focus ((refine wid ?_ ?_ <;> omega))); conv => whnf)
         | (refine SeqJ.thru ?_; conv => whnf)
         | (refine br_dec (fun _ => ?_) (fun _ => ?_) <;> first | (exfalso; omega) | contradiction | conv => whnf)
         | (refine br_not ?_; conv => whnf)
         | (refine br_bne (fun _ => ?_) (fun _ => ?_) <;> first | (exfalso; omega) | contradiction | conv => whnf)
         | (refine br_beq (fun _ => ?_) (fun _ => ?_) <;> first | (exfalso; omega) | contradiction | conv => whnf))
        refine Pick.mk (n + 1, r2) ⟨⟨by simp only; omega, by rw [hr2, hr, mergeK_succ, hL, List.take_of_length_le (by omega)], by simp only; omega⟩, by simp only; omega⟩ (LeX.of ?_)
        try (conv => whnf)
        repeat (refine Need.mk ?_ ?_; (focus (first | omega | (simp; done))); conv => whnf)
        trivial
     ·have hL : longer a b n = A := by rw [longer, if_neg (by rw [← e1, ← e2]; omega), e1]
      refine LoopE.mk (fun x : Nat × List OpV => mk [(8, .one (.ep (.v 8224) 120 0 0)), (9, .one (.ep (.v 8225) 120 0 0)), (13, .one (.os (.v 86080) 12 0 x.2.length)), (14, vI .i64 n), (58, vI .i64 n), (83, .one (.os (.h 8224 0 n) 12 0 ((bookOf a).of.getD n []).length)), (84, vI .i64 ((bookOf a).of.getD n []).length), (85, vI .i64 x.1)] [(8224, bkR a), (8225, bkR b), (86080, .own 12 (x.2.map oO))])
       (fun x => x.1 ≤ A.length ∧ x.2 = r ++ A.take x.1 ∧ x.2.length ≤ 1024 * n + x.1) (fun x => A.length - x.1) (0, r) ⟨by simp only; omega, by simp, by simp only; omega⟩ (LeX.of ?_) ?_
      ·try (conv => whnf)
       repeat (refine Need.mk ?_ ?_; (focus (first | omega | (simp; done))); conv => whnf)
       trivial
      ·rintro ⟨i, r2⟩ ⟨hi, hr2, hr2l⟩
       simp only at hi hr2 hr2l ⊢
       by_cases hia : i < A.length
       ·have ga : ((bookOf a).of.getD n [])[i]'(by omega) = A[i] := by simp only [hA]
        have ma : A[i] ∈ a := by have := List.getElem_mem hia; simp only [e1] at this ⊢; exact (mem_own.1 this).1
        try (conv => whnf)
        repeat' (first
         | (refine Need.mk ?_ ?_; (focus (omega)); conv => whnf)
         | (refine Pick.mk ?_ ?_ ?_; rotate_left; (focus (first | (with_reducible refine bk_of ?_ ?_ <;> first | assumption | omega) | (with_reducible refine get_mapN _ _ _ ?_; first | omega | (simp; omega)) | ((show @Eq (Option _) _ _); simp only [List.getElem?_cons_zero, List.getElem?_cons_succ]; rfl))); conv => whnf)
         | (refine SeqJ.thru ?_; conv => whnf)
         | (refine br_dec (fun _ => ?_) (fun _ => ?_) <;> first | (exfalso; omega) | contradiction | conv => whnf)
         | (refine br_not ?_; conv => whnf)
         | (refine br_bne (fun _ => ?_) (fun _ => ?_) <;> first | (exfalso; omega) | contradiction | conv => whnf)
         | (refine br_beq (fun _ => ?_) (fun _ => ?_) <;> first | (exfalso; omega) | contradiction | conv => whnf))
        refine Hand.mk [] ?_
        try (conv => whnf)
        refine CallW.d (i_opCopy (((bookOf a).of.getD n [])[i]'(by omega)) (by rw [ga]; have := (h1.good.all _ ma).vec.1; omega)) ?_
        try (conv => whnf)
        repeat (first
         | (refine Need.mk ?_ ?_; (focus (first | (simp; done) | (simp; omega) | (first | exact fz_self _ _ (fun _ => rfl) | exact fz_pl rfl | (refine Fz.append ?_ ?_ <;> first | exact fz_self _ _ (fun _ => rfl) | exact fz_pl rfl) | (refine Fz.append (Fz.append ?_ ?_) ?_ <;> first | exact fz_self _ _ (fun _ => rfl) | exact fz_pl rfl)))); conv => whnf)
         | (refine Pick.mk ?_ ?_ ?_; rotate_left; (focus (first | (simp only [List.length_map, List.length_append, List.length_cons, List.length_nil, List.length_replicate, Nat.zero_add]; rfl) | (simp only [chunks]; rfl) | (refine wid ?_ ?_ <;> omega) | (refine SlOf.full ?_; first | (simp; done) | (simp; omega)))); conv => whnf)
         | (refine OwnQ.mk true ?_; conv => whnf))
        refine Pick.mk (i + 1, r2 ++ [A[i]]) ⟨⟨by simp only; omega, by rw [hr2, List.take_succ_eq_append_getElem hia, List.append_assoc], by simp; omega⟩, by simp only; omega⟩ (LeX.of ?_)
        try (conv => whnf)
        repeat (refine Need.mk ?_ ?_; (focus (first | omega | (simp; done) | rfl)); conv => whnf)
        refine Need.mk (by simp only [ga, List.map_append]; rfl) ?_
        try (conv => whnf)
        trivial
       ·try (conv => whnf)
        repeat' (first
         | (refine Pick.mk ?_ ?_ ?_; rotate_left; (focus ((refine wid ?_ ?_ <;> omega))); conv => whnf)
         | (refine SeqJ.thru ?_; conv => whnf)
         | (refine br_dec (fun _ => ?_) (fun _ => ?_) <;> first | (exfalso; omega) | contradiction | conv => whnf)
         | (refine br_not ?_; conv => whnf)
         | (refine br_bne (fun _ => ?_) (fun _ => ?_) <;> first | (exfalso; omega) | contradiction | conv => whnf)
         | (refine br_beq (fun _ => ?_) (fun _ => ?_) <;> first | (exfalso; omega) | contradiction | conv => whnf))
        refine Pick.mk (n + 1, r2) ⟨⟨by simp only; omega, by rw [hr2, hr, mergeK_succ, hL, List.take_of_length_le (by omega)], by simp only; omega⟩, by simp only; omega⟩ (LeX.of ?_)
        try (conv => whnf)
        repeat (refine Need.mk ?_ ?_; (focus (first | omega | (simp; done))); conv => whnf)
        trivial
    ·have e : r = mergeF a b := by rw [hr, show n = 16 by omega]; rfl
     try (conv => whnf)
     repeat' (first
      | (refine SeqJ.thru ?_; conv => whnf)
      | (refine br_dec (fun _ => ?_) (fun _ => ?_) <;> first | (exfalso; omega) | contradiction | conv => whnf)
      | (refine br_not ?_; conv => whnf)
      | (refine br_bne (fun _ => ?_) (fun _ => ?_) <;> first | (exfalso; omega) | contradiction | conv => whnf)
      | (refine br_beq (fun _ => ?_) (fun _ => ?_) <;> first | (exfalso; omega) | contradiction | conv => whnf))
     ·refine Out.mk false [0, 1, 2, 3, 4] [] ?_
      try (conv => whnf)
      exact ⟨.inr ⟨by rw [mergeC, if_neg (by rw [hc]; decide), if_neg (fun g => g hkk), if_pos (by rw [← e]; omega)]; decide, by rw [mergeC, if_neg (by rw [hc]; decide), if_neg (fun g => g hkk), if_pos (by rw [← e]; omega)], rfl⟩⟩
     ·refine Out.mk false [0, 1, 2, 3, 4] [] ?_
      try (conv => whnf)
      rw [e]
      exact ⟨.inl ⟨by rw [mergeC, if_neg (by rw [hc]; decide), if_neg (fun g => g hkk), if_neg (by rw [← e]; omega)], rfl, rfl⟩⟩
end Go.Proofs.Ytpdjehnlejjfmaa.D
/- What two logs have in common; their merge, by the program. -/
namespace Go.Proofs.Ytpdjehnlejjfmaa.D
open Go.RowKit
set_option maxRecDepth 100000
set_option maxHeartbeats 4000000
set_option linter.unusedVariables false
set_option linter.unusedSimpArgs false
theorem i_BranchMerge (a b : List OpV) (ha : ∀ o ∈ a, o.key.length ≤ 2 ^ 40 ∧ o.text.length ≤ 2 ^ 40) (hb : ∀ o ∈ b, o.key.length ≤ 2 ^ 40 ∧ o.text.length ≤ 2 ^ 40) :
  CallD Try.prog id_impl_BranchMerge [vL a, vL b] [] (.tup [(false, [.os (.v 0) 12 0 (mergeR a b).length]), (false, [cI (mergeC a b)])]) [.own 12 ((mergeR a b).map oO)] := by
 refine F_impl_BranchMerge ?_
 try (conv => whnf)
 refine Hand.mk [] ?_
 try (conv => whnf)
 refine CallW.n (i_merge a b ha hb) ?_
 rintro _ _ (⟨hc, rfl, rfl⟩ | ⟨hc, rfl, rfl⟩)
 ·rw [show mergeR a b = mergeF a b from if_pos hc, hc]
  refine Out.mk false [0, 1, 2, 3, 4] [] ?_
  try (conv => whnf)
  repeat (refine Need.mk ?_ ?_; (focus (exact flat_oO _)); conv => whnf)
  exact ⟨rfl, rfl⟩
 ·rw [show mergeR a b = [] from if_neg hc]
  refine Out.mk false [0, 1, 2, 3, 4] [(0, 12)] ?_
  try (conv => whnf)
  repeat (refine Need.mk ?_ ?_; (focus ((first | exact flat_by _ | exact flat_in _ | exact flat_st _ | exact flat_ts _ | exact flat_bo _ | exact flat_cl rfl))); conv => whnf)
  exact ⟨rfl, rfl⟩
noncomputable def baseR (a b : List OpV) : List Int := if mcode a b = 0 then meetR (cnts a) (cnts b) else []
noncomputable def baseC (a b : List OpV) : Int := if mcode a b = 0 then meetC (cnts a) (cnts b) else mcode a b
theorem i_BranchBase (a b : List OpV) (ha : ∀ o ∈ a, o.key.length ≤ 2 ^ 40 ∧ o.text.length ≤ 2 ^ 40) (hb : ∀ o ∈ b, o.key.length ≤ 2 ^ 40 ∧ o.text.length ≤ 2 ^ 40) :
  CallD Try.prog id_impl_BranchBase [vL a, vL b] [] (.tup [(true, [.os (.v 0) 1 0 (baseR a b).length]), (false, [cI (baseC a b)])]) [.own 1 ((baseR a b).map inD)] := by
 refine F_impl_BranchBase ?_
 try (conv => whnf)
 refine Hand.mk [] ?_
 try (conv => whnf)
 refine CallW.n (i_readTwo a b ha hb) ?_
 rintro _ _ (⟨hc, rfl, rfl⟩ | ⟨hc, rfl, rfl⟩)
 ·obtain ⟨h1, h2, hf⟩ := mcode_ok.1 hc
  rw [show baseR a b = meetR (cnts a) (cnts b) from if_pos hc, show baseC a b = meetC (cnts a) (cnts b) from if_pos hc]
  try (conv => whnf)
  repeat' (first
   | (refine SeqJ.thru ?_; conv => whnf)
   | (refine br_dec (fun _ => ?_) (fun _ => ?_) <;> first | (exfalso; omega) | contradiction | conv => whnf)
   | (refine br_not ?_; conv => whnf)
   | (refine br_bne (fun _ => ?_) (fun _ => ?_) <;> first | (exfalso; omega) | contradiction | conv => whnf)
   | (refine br_beq (fun _ => ?_) (fun _ => ?_) <;> first | (exfalso; omega) | contradiction | conv => whnf))
  refine Hand.mk [] ?_
  try (conv => whnf)
  refine CallW.k (i_vector a h1) ?_
  try (conv => whnf)
  refine Hand.mk [] ?_
  try (conv => whnf)
  refine CallW.k (i_vector b h2) ?_
  try (conv => whnf)
  refine Hand.mk [] ?_
  try (conv => whnf)
  repeat (refine Pick.mk ?_ ?_ ?_; rotate_left; (focus ((refine SlF.self _ _ ?_ ?_; (first | rfl | omega | (simp; done) | (simp; omega)); (exact fun _ => rfl)))); conv => whnf)
  refine CallW.d (i_VecMeet (cnts a) (cnts b)) ?_
  try (conv => whnf)
  refine Out.mk false [0, 1, 2, 3, 4] [] ?_
  try (conv => whnf)
  repeat (refine Need.mk ?_ ?_; (focus ((first | exact flat_by _ | exact flat_in _ | exact flat_st _ | exact flat_ts _ | exact flat_bo _ | exact flat_cl rfl))); conv => whnf)
  exact ⟨rfl, rfl⟩
 ·rw [show baseR a b = [] from if_neg hc, show baseC a b = mcode a b from if_neg hc]
  obtain ⟨m, hm⟩ : ∃ m, m = mcode a b := ⟨_, rfl⟩
  rw [← hm] at hc
  rw [← hm]
  try (conv => whnf)
  repeat' (first
   | (refine SeqJ.thru ?_; conv => whnf)
   | (refine br_dec (fun _ => ?_) (fun _ => ?_) <;> first | (exfalso; omega) | contradiction | conv => whnf)
   | (refine br_not ?_; conv => whnf)
   | (refine br_bne (fun _ => ?_) (fun _ => ?_) <;> first | (exfalso; omega) | contradiction | conv => whnf)
   | (refine br_beq (fun _ => ?_) (fun _ => ?_) <;> first | (exfalso; omega) | contradiction | conv => whnf))
  refine Out.mk false [0, 1, 2, 3, 4] [(0, 1)] ?_
  try (conv => whnf)
  repeat (refine Need.mk ?_ ?_; (focus ((first | exact flat_by _ | exact flat_in _ | exact flat_st _ | exact flat_ts _ | exact flat_bo _ | exact flat_cl rfl))); conv => whnf)
  exact ⟨rfl, rfl⟩
theorem s_BranchBase (a b : List OpV) (ha : ∀ o ∈ a, o.key.length ≤ 2 ^ 40 ∧ o.text.length ≤ 2 ^ 40) (hb : ∀ o ∈ b, o.key.length ≤ 2 ^ 40 ∧ o.text.length ≤ 2 ^ 40) :
  CallD Try.prog id_spec_BranchBase [vL a, vL b] [] (.tup [(true, [.os (.v 0) 1 0 (baseR a b).length]), (false, [cI (baseC a b)])]) [.own 1 ((baseR a b).map inD)] := by
 refine F_spec_BranchBase ?_
 by_cases hc : mcode a b = 0
 ·obtain ⟨h1, h2, hf⟩ := mcode_ok.1 hc
  have c1 := s_l11Code a b ha hb
  rw [hc] at c1
  rw [show baseR a b = meetR (cnts a) (cnts b) from if_pos hc, show baseC a b = meetC (cnts a) (cnts b) from if_pos hc]
  try (conv => whnf)
  refine Hand.mk [] ?_
  try (conv => whnf)
  refine CallW.d (c1) ?_
  try (conv => whnf)
  repeat (refine SeqJ.thru ?_; conv => whnf)
  try (conv => whnf)
  repeat' (first
   | (refine br_dec (fun _ => ?_) (fun _ => ?_) <;> first | (exfalso; omega) | contradiction | conv => whnf)
   | (refine br_not ?_; conv => whnf)
   | (refine br_bne (fun _ => ?_) (fun _ => ?_) <;> first | (exfalso; omega) | contradiction | conv => whnf)
   | (refine br_beq (fun _ => ?_) (fun _ => ?_) <;> first | (exfalso; omega) | contradiction | conv => whnf))
  refine Hand.mk [] ?_
  try (conv => whnf)
  refine CallW.d (s_l08Counts a (fun o h => (h1.good.all o h).st.2) (by have := h1.len; omega)) ?_
  try (conv => whnf)
  refine Hand.mk [] ?_
  try (conv => whnf)
  refine CallW.d (s_l08Counts b (fun o h => (h2.good.all o h).st.2) (by have := h2.len; omega)) ?_
  try (conv => whnf)
  refine Hand.mk [] ?_
  try (conv => whnf)
  repeat (refine Pick.mk ?_ ?_ ?_; rotate_left; (focus ((refine SlF.self _ _ ?_ ?_; (first | rfl | omega | (simp; done) | (simp; omega)); (exact fun _ => rfl)))); conv => whnf)
  refine CallW.d (s_VecMeet (cnts a) (cnts b)) ?_
  try (conv => whnf)
  refine Out.mk false [0, 1, 2, 3, 4] [] ?_
  try (conv => whnf)
  repeat (refine Need.mk ?_ ?_; (focus ((first | exact flat_by _ | exact flat_in _ | exact flat_st _ | exact flat_ts _ | exact flat_bo _ | exact flat_cl rfl))); conv => whnf)
  exact ⟨rfl, rfl⟩
 ·have c1 := s_l11Code a b ha hb
  rw [show baseR a b = [] from if_neg hc, show baseC a b = mcode a b from if_neg hc]
  obtain ⟨m, hm⟩ : ∃ m, m = mcode a b := ⟨_, rfl⟩
  rw [← hm] at hc c1
  rw [← hm]
  try (conv => whnf)
  refine Hand.mk [] ?_
  try (conv => whnf)
  refine CallW.d (c1) ?_
  try (conv => whnf)
  repeat (refine SeqJ.thru ?_; conv => whnf)
  try (conv => whnf)
  repeat' (first
   | (refine br_dec (fun _ => ?_) (fun _ => ?_) <;> first | (exfalso; omega) | contradiction | conv => whnf)
   | (refine br_not ?_; conv => whnf)
   | (refine br_bne (fun _ => ?_) (fun _ => ?_) <;> first | (exfalso; omega) | contradiction | conv => whnf)
   | (refine br_beq (fun _ => ?_) (fun _ => ?_) <;> first | (exfalso; omega) | contradiction | conv => whnf))
  refine Out.mk false [0, 1, 2, 3, 4] [(0, 1)] ?_
  try (conv => whnf)
  repeat (refine Need.mk ?_ ?_; (focus ((first | exact flat_by _ | exact flat_in _ | exact flat_st _ | exact flat_ts _ | exact flat_bo _ | exact flat_cl rfl))); conv => whnf)
  exact ⟨rfl, rfl⟩
end Go.Proofs.Ytpdjehnlejjfmaa.D
/- Two logs and their merge, in numbers. -/
namespace Go.Proofs.Ytpdjehnlejjfmaa.D
open Go.RowKit
set_option maxRecDepth 100000
set_option maxHeartbeats 4000000
set_option linter.unusedVariables false
set_option linter.unusedSimpArgs false
theorem kindsOk.symm {a b : List OpV} (h : kindsOk a b) : kindsOk b a := fun x hx y hy e => (h y hy x hx e.symm).symm
theorem mcode_comm {a b : List OpV} : mcode a b = 0 ↔ mcode b a = 0 := by
 rw [mcode_ok, mcode_ok]
 exact ⟨fun ⟨h1, h2, h3⟩ => ⟨h2, h1, h3.symm⟩, fun ⟨h1, h2, h3⟩ => ⟨h2, h1, h3.symm⟩⟩
theorem mergeC_ok {a b : List OpV} : mergeC a b = 0 ↔ mcode a b = 0 ∧ kindsOk a b ∧ (mergeF a b).length ≤ 1024 := by
 unfold mergeC
 by_cases h : mcode a b = 0
 ·rw [if_neg (fun g => g h)]
  by_cases h2 : kindsOk a b
  ·rw [if_neg (fun g => g h2)]
   by_cases h3 : (mergeF a b).length > 1024
   ·rw [if_pos h3]; exact ⟨fun g => absurd g (by decide), fun ⟨_, _, g⟩ => absurd g (by omega)⟩
   ·rw [if_neg h3]; exact ⟨fun _ => ⟨h, h2, by omega⟩, fun _ => rfl⟩
  ·rw [if_pos h2]; exact ⟨fun g => absurd g (by decide), fun ⟨_, g, _⟩ => absurd g h2⟩
 ·rw [if_pos h]; exact ⟨fun g => absurd g h, fun ⟨g, _, _⟩ => absurd g h⟩
theorem mergeC_comm {a b : List OpV} : mergeC a b = 0 ↔ mergeC b a = 0 := by
 rw [mergeC_ok, mergeC_ok]
 constructor
 ·rintro ⟨h1, h2, h3⟩
  exact ⟨mcode_comm.1 h1, h2.symm, by rw [mergeF_comm (mcode_ok.1 h1).2.2.symm]; exact h3⟩
 ·rintro ⟨h1, h2, h3⟩
  exact ⟨mcode_comm.1 h1, h2.symm, by rw [mergeF_comm (mcode_ok.1 h1).2.2.symm]; exact h3⟩
theorem flat_congr {f g : Nat → List OpV} : ∀ k : Nat, (∀ n, n < k → f n = g n) → (List.range k).flatMap f = (List.range k).flatMap g
 | 0, _ => rfl
 |k + 1, h => by
  rw [List.range_succ, List.flatMap_append, List.flatMap_append, flat_congr k fun n hn => h n (by omega)]
  simp [h k (by omega)]
theorem longer_ge (a b : List OpV) (n : Nat) : (own b n).length ≤ (longer a b n).length := by
 unfold longer; split <;> omega
theorem merge_again {a b : List OpV} (h : mergeC a b = 0) : mergeC (mergeF a b) b = 0 ∧ mergeF (mergeF a b) b = mergeF a b := by
 obtain ⟨h1, h2, h3⟩ := mergeC_ok.1 h
 obtain ⟨ha, hb, hf⟩ := mcode_ok.1 h1
 have hx := merge_log ha hb hf h2 h3
 have hown : ∀ n : Nat, n < 16 → own (mergeF a b) n = longer a b n := fun n hn => merge_own n hn
 have hl : ∀ n : Nat, n < 16 → longer (mergeF a b) b n = own (mergeF a b) n := fun n hn => by
  have := longer_ge a b n
  rw [longer, if_neg (by rw [hown n hn]; omega)]
 have e : mergeF (mergeF a b) b = mergeF a b := by
  refine (flat_congr 16 hl).trans ?_
  exact hx.acts
 refine ⟨mergeC_ok.2 ⟨mcode_ok.2 ⟨hx, hb, fun n hn i g1 g2 => ?_⟩, fun x hx y hy e => ?_, by rw [e]; exact h3⟩, e⟩
 ·obtain ⟨t, ht⟩ := longer_b hf hn
  have e2 := (hown n hn).trans ht
  simp only [e2]
  exact List.getElem_append_left g2
 ·rcases merge_mem hx with g | g
  ·exact h2 x g y hy e
  ·exact (th_iff (hb.good.all x g).kinds (hb.good.all y hy).kinds).1 (hb.same x g y hy e)
def sumV (v : List Int) (k : Nat) : Int := (v.take k).foldl (· + ·) 0
theorem sumV_succ (v : List Int) {k : Nat} (h : k < v.length) : sumV v (k + 1) = sumV v k + v[k] := by
 rw [sumV, List.take_succ_eq_append_getElem h, List.foldl_append]; rfl
theorem sum_a (a b : List OpV) : ∀ k : Nat, k ≤ 16 → sumV (vmin (cnts a) (cnts b)) k + (aheadK a b k).length = (actsL a k).length ∧ 0 ≤ sumV (vmin (cnts a) (cnts b)) k
 | 0, _ => by simp [sumV, aheadK, actsL]
 |k + 1, h => by
  obtain ⟨ih, ih0⟩ := sum_a a b k (by omega)
  rw [sumV_succ _ (by simp [vmin]; omega), vmin_get (by simp) (by simp) (by omega), cnts_get a (by omega), cnts_get b (by omega), aheadK_succ, actsL_succ]
  simp only [List.length_append, List.length_drop]
  push_cast
  split <;> omega
theorem sum_b (a b : List OpV) : ∀ k : Nat, k ≤ 16 → sumV (vmin (cnts a) (cnts b)) k + (aheadK a b k).length + (aheadK b a k).length = (mergeK a b k).length
 | 0, _ => by simp [sumV, aheadK, mergeK]
 |k + 1, h => by
  have ih := sum_b a b k (by omega)
  rw [sumV_succ _ (by simp [vmin]; omega), vmin_get (by simp) (by simp) (by omega), cnts_get a (by omega), cnts_get b (by omega), aheadK_succ, aheadK_succ, mergeK_succ]
  simp only [List.length_append, List.length_drop, longer]
  push_cast
  split <;> split <;> omega
theorem vmin_comm (a b : List Int) : vmin a b = vmin b a := by
 unfold vmin
 apply List.ext_getElem (by simp [Nat.min_comm])
 intro i h1 h2
 simp; split <;> split <;> omega
theorem merge_sums {a b : List OpV} (ha : LogOk a) (hb : LogOk b) :
  sumV (vmin (cnts a) (cnts b)) 16 + (aheadL a b).length = a.length ∧ sumV (vmin (cnts a) (cnts b)) 16 + (aheadL b a).length = b.length ∧
  sumV (vmin (cnts a) (cnts b)) 16 + (aheadL a b).length + (aheadL b a).length = (mergeF a b).length := by
 have h1 := (sum_a a b 16 (by omega)).1
 have h2 := (sum_a b a 16 (by omega)).1
 have h3 := sum_b a b 16 (by omega)
 rw [ha.acts] at h1
 rw [hb.acts, vmin_comm] at h2
 exact ⟨h1, h2, h3⟩
end Go.Proofs.Ytpdjehnlejjfmaa.D
/- The source that the laws draw from: bytes, numbers, words. -/
namespace Go.Proofs.Ytpdjehnlejjfmaa.D
open Go.RowKit
set_option maxRecDepth 100000
set_option linter.unusedVariables false
set_option linter.unusedSimpArgs false

abbrev srcR (code : List UInt8) (a s : Int) : Row := .box [cY code, cI a, cI s]
structure Src (code : List UInt8) (a s b : Int) : Prop where
 len : code.length ≤ 2 ^ 40
 lo : 0 ≤ a
 hi : a ≤ b
 slo : 0 ≤ s
 shi : s < 2147483648
theorem Src.mono {code : List UInt8} {a s b c : Int} (h : Src code a s b) (hc : b ≤ c) : Src code a s c := ⟨h.len, h.lo, Int.le_trans h.hi hc, h.slo, h.shi⟩
def Draws (code : List UInt8) (b : Int) (Q : SV → List Row → Prop) : SV → List Row → Prop :=
 fun r Lo => ∃ a' s' Lo', Lo = srcR code a' s' :: Lo' ∧ Src code a' s' b ∧ Q r Lo'
abbrev DI (Q : Int → Prop) : SV → List Row → Prop := fun r Lo => ∃ v, Lo = [] ∧ r = vI .i64 v ∧ Q v
abbrev DB (Q : Bool → Prop) : SV → List Row → Prop := fun r Lo => ∃ v, Lo = [] ∧ r = vB v ∧ Q v
abbrev DT (Q : List UInt8 → Prop) : SV → List Row → Prop := fun r Lo => ∃ v, Lo = [] ∧ r = vS (bs v) ∧ Q v
theorem s_l01Source (code : List UInt8) (hc : code.length ≤ 2 ^ 40) :
  CallM Try.prog id_spec_l01Source [vY code] [] [] false fun r Lo => ∃ s, Lo = [srcR code 0 s] ∧ r = .one (.ptr 0 0) ∧ Src code 0 s 0 := by
 refine F_spec_l01Source ?_
 try (conv => whnf)
 repeat (first
  | (refine Need.mk ?_ ?_; (focus (omega)); conv => whnf)
  | (refine Pick.mk ?_ ?_ ?_; rotate_left; (focus (first | exact List.length_map _ | (refine tmodn ?_; omega))); conv => whnf))
 refine Out.mk false [0, 1, 2, 3, 4] [] ?_
 try (conv => whnf)
 exact ⟨_, rfl, rfl, hc, by omega, by omega, by omega, by omega⟩
theorem tmod_lt {n : Int} (h0 : 0 ≤ n) (m : Int) (hm : 0 < m) : 0 ≤ n.tmod m ∧ n.tmod m < m := by
 rw [Int.tmod_eq_emod_of_nonneg h0]
 exact ⟨Int.emod_nonneg _ (by omega), Int.emod_lt_of_pos _ hm⟩
section
variable {code : List UInt8} {a s b : Int}
theorem s_byte (hS : Src code a s b) (hb : b ≤ 2 ^ 60) :
  CallM Try.prog id_spec_l01Src_byte [.one (.ptr 0 0)] [srcR code a s] [] false (Draws code (b + 1) (DI fun v => 0 ≤ v ∧ v ≤ 255)) := by
 refine F_spec_l01Src_byte ?_
 obtain ⟨hc, h0, h1, h2, h3⟩ := hS
 try (conv => whnf)
 repeat' (first
  | (refine Need.mk ?_ ?_; (focus (omega)); conv => whnf)
  | (refine Pick.mk ?_ ?_ ?_; rotate_left; (focus (first | exact List.length_map _ | (refine wid ?_ ?_ <;> omega) | exact wby _ | (refine tmodn ?_; omega) | (refine wdiv ?_ ?_ ?_ <;> omega) | (refine pick_int _ _ _ ?_ ?_ <;> omega) | ((fail_if_success (show @Eq (Option _) _ _)); rfl))); conv => whnf)
  | (refine SeqJ.thru ?_; conv => whnf)
  | (refine br_dec (fun _ => ?_) (fun _ => ?_) <;> first | (exfalso; omega) | contradiction | conv => whnf)
  | (refine br_not ?_; conv => whnf)
  | (refine br_bne (fun _ => ?_) (fun _ => ?_) <;> first | (exfalso; omega) | contradiction | conv => whnf)
  | (refine br_beq (fun _ => ?_) (fun _ => ?_) <;> first | (exfalso; omega) | contradiction | conv => whnf))
 ·refine Out.mk false [0, 1, 2, 3, 4] [] ?_
  try (conv => whnf)
  have hb := byLt (code[(a + 1 - 1).toNat]'(by omega))
  rw [wid (x := s * 31 + _) (by omega) (by omega), wid (by omega) (by omega)]
  have ht := tmod_lt (n := s * 31 + ((code[(a + 1 - 1).toNat]'(by omega)).toNat : Int) + 7) (by omega) 2147483648 (by omega)
  exact ⟨a + 1, _, [], rfl, ⟨hc, by omega, by omega, ht.1, ht.2⟩, _, rfl, rfl, by omega, by omega⟩
 ·refine Out.mk false [0, 1, 2, 3, 4] [] ?_
  try (conv => whnf)
  exact ⟨a + 1, s, [], rfl, ⟨hc, by omega, by omega, by omega, by omega⟩, _, rfl, rfl, by omega, by omega⟩
 ·refine Out.mk false [0, 1, 2, 3, 4] [] ?_
  try (conv => whnf)
  exact ⟨a + 1, _, [], rfl, ⟨hc, by omega, by omega, by omega, by omega⟩, _, rfl, rfl, by omega, by omega⟩
theorem s_next (hS : Src code a s b) (hb : b ≤ 2 ^ 59) (n : Int) (hn : n ≤ 2 ^ 62) :
  CallM Try.prog id_spec_l01Src_next [.one (.ptr 0 0), vI .i64 n] [srcR code a s] [] false (Draws code (b + 3) (DI fun v => 0 ≤ v ∧ (v < n ∨ v = 0))) := by
 refine F_spec_l01Src_next ?_
 try (conv => whnf)
 repeat' (first
  | (refine SeqJ.thru ?_; conv => whnf)
  | (refine br_dec (fun _ => ?_) (fun _ => ?_) <;> first | (exfalso; omega) | contradiction | conv => whnf)
  | (refine br_not ?_; conv => whnf)
  | (refine br_bne (fun _ => ?_) (fun _ => ?_) <;> first | (exfalso; omega) | contradiction | conv => whnf)
  | (refine br_beq (fun _ => ?_) (fun _ => ?_) <;> first | (exfalso; omega) | contradiction | conv => whnf))
 ·refine Out.mk false [0, 1, 2, 3, 4] [] ?_
  try (conv => whnf)
  exact ⟨a, s, [], rfl, hS.mono (by omega), _, rfl, rfl, by omega, by omega⟩
 ·refine Hand.mk [] ?_
  try (conv => whnf)
  refine CallW.n (s_byte hS (by omega)) ?_
  rintro _ _ ⟨a1, s1, _, rfl, hS1, v1, rfl, rfl, hv1⟩
  try (conv => whnf)
  repeat (first
   | (refine Need.mk ?_ ?_; (focus (omega)); conv => whnf)
   | (refine Pick.mk ?_ ?_ ?_; rotate_left; (focus ((refine tmodn ?_; omega))); conv => whnf))
  refine Out.mk false [0, 1, 2, 3, 4] [] ?_
  try (conv => whnf)
  have := Int.emod_nonneg v1 (show n ≠ 0 by omega)
  have := Int.emod_lt_of_pos v1 (show 0 < n by omega)
  exact ⟨_, _, [], rfl, hS1.mono (by omega), _, rfl, rfl, by omega, by omega⟩
 ·refine Hand.mk [] ?_
  try (conv => whnf)
  refine CallW.n (s_byte hS (by omega)) ?_
  rintro _ _ ⟨a1, s1, _, rfl, hS1, v1, rfl, rfl, hv1⟩
  try (conv => whnf)
  repeat (refine Pick.mk ?_ ?_ ?_; rotate_left; (focus ((refine wid ?_ ?_ <;> omega))); conv => whnf)
  refine Hand.mk [] ?_
  try (conv => whnf)
  refine CallW.n (s_byte hS1 (by omega)) ?_
  rintro _ _ ⟨a2, s2, _, rfl, hS2, v2, rfl, rfl, hv2⟩
  try (conv => whnf)
  repeat (refine Pick.mk ?_ ?_ ?_; rotate_left; (focus ((refine wid ?_ ?_ <;> omega))); conv => whnf)
  refine Hand.mk [] ?_
  try (conv => whnf)
  refine CallW.n (s_byte hS2 (by omega)) ?_
  rintro _ _ ⟨a3, s3, _, rfl, hS3, v3, rfl, rfl, hv3⟩
  try (conv => whnf)
  repeat (first
   | (refine Need.mk ?_ ?_; (focus (omega)); conv => whnf)
   | (refine Pick.mk ?_ ?_ ?_; rotate_left; (focus (first | (refine wid ?_ ?_ <;> omega) | (refine tmodn ?_; omega))); conv => whnf))
  refine Out.mk false [0, 1, 2, 3, 4] [] ?_
  try (conv => whnf)
  have := Int.emod_nonneg (v1 * 65536 + v2 * 256 + v3) (show n ≠ 0 by omega)
  have := Int.emod_lt_of_pos (v1 * 65536 + v2 * 256 + v3) (show 0 < n by omega)
  exact ⟨_, _, [], rfl, hS3.mono (by omega), _, rfl, rfl, by omega, by omega⟩
theorem s_chance (hS : Src code a s b) (hb : b ≤ 2 ^ 59) (n : Int) (h0 : 0 ≤ n) (hn : n ≤ 2 ^ 62) :
  CallM Try.prog id_spec_l01Src_chance [.one (.ptr 0 0), vI .i64 n] [srcR code a s] [] false (Draws code (b + 3) (DB fun v => True)) := by
 refine F_spec_l01Src_chance ?_
 try (conv => whnf)
 refine Hand.mk [] ?_
 try (conv => whnf)
 refine CallW.n (s_next hS hb n hn) ?_
 rintro _ _ ⟨a1, s1, _, rfl, hS1, v1, rfl, rfl, hv1⟩
 try (conv => whnf)
 repeat (refine Pick.mk ?_ ?_ ?_; rotate_left; (focus ((refine wid ?_ ?_ <;> omega))); conv => whnf)
 refine Out.mk false [0, 1, 2, 3, 4] [] ?_
 try (conv => whnf)
 exact ⟨_, _, [], rfl, hS1, _, rfl, rfl, trivial⟩
def isT (k : Nat) : List DV → Bool
 | [.sc (.string s)] => Nat.ble s.size k
 | _ => false
theorem pickT {es : List (List DV)} {n : Nat} {X : List DV → Prop} (k : Nat) (hk : es.all (isT k) = true) (hn : n < es.length) (h : ∀ t : List UInt8, t.length ≤ k → X (stD (bs t))) : Pick (fun c => es[n]? = some c) X := by
 have h1 := List.all_eq_true.1 hk es[n] (List.getElem_mem _)
 have h2 : es[n]? = some es[n] := List.getElem?_eq_getElem hn
 unfold isT at h1
 split at h1
 ·rename_i s he
  obtain ⟨t, rfl⟩ := bs_all s
  exact ⟨_, h2.trans (by rw [he]), h t (by simpa using Nat.le_of_ble_eq_true h1)⟩
 ·simp at h1
def isI (p : Int → Bool) : List DV → Bool
 | [.sc (.int .i64 n)] => p n
 | _ => false
theorem s_word (hS : Src code a s b) (hb : b ≤ 2 ^ 59) :
  CallM Try.prog id_spec_l01Src_word [.one (.ptr 0 0)] [srcR code a s] [] false (Draws code (b + 3) (DT fun v => v.length ≤ 5)) := by
 refine F_spec_l01Src_word ?_
 try (conv => whnf)
 repeat (refine Pick.mk ?_ ?_ ?_; rotate_left; (focus ((simp only [chunks]; rfl))); conv => whnf)
 refine Hand.mk [] ?_
 try (conv => whnf)
 refine CallW.n (s_next hS hb 10 (by omega)) ?_
 rintro _ _ ⟨a1, s1, _, rfl, hS1, v1, rfl, rfl, hv1⟩
 try (conv => whnf)
 repeat (refine Need.mk ?_ ?_; (focus (omega)); conv => whnf)
 refine pickT 5 rfl (by rw [addN_eq]; show _ < 10; omega) fun t ht => ?_
 try (conv => whnf)
 refine Out.mk false [0, 1, 2, 3, 4] [] ?_
 try (conv => whnf)
 exact ⟨_, _, [], rfl, hS1, _, rfl, rfl, ht⟩
end
end Go.Proofs.Ytpdjehnlejjfmaa.D
/- Vectors as they are drawn. -/
namespace Go.Proofs.Ytpdjehnlejjfmaa.D
open Go.RowKit
set_option maxRecDepth 100000
set_option linter.unusedVariables false
set_option linter.unusedSimpArgs false
section
variable {code : List UInt8} {a s b : Int}
end
end Go.Proofs.Ytpdjehnlejjfmaa.D
/- Numbers, texts and lists drawn. -/
namespace Go.Proofs.Ytpdjehnlejjfmaa.D
open Go.RowKit
set_option maxRecDepth 100000
set_option maxHeartbeats 4000000
set_option linter.unusedVariables false
set_option linter.unusedSimpArgs false
section
variable {code : List UInt8} {a s b : Int}
theorem s_size (hS : Src code a s b) (m : Int) (h0 : 0 ≤ m) (hm : m ≤ 2 ^ 40) :
  CallM Try.prog id_spec_l01Src_size [.one (.ptr 0 0), vI .i64 m] [srcR code a s] [] false (Draws code b (DI fun v => 0 ≤ v ∧ v ≤ m)) := by
 refine F_spec_l01Src_size ?_
 have hl := hS.len
 try (conv => whnf)
 repeat (first
  | (refine Need.mk ?_ ?_; (focus (omega)); conv => whnf)
  | (refine Pick.mk ?_ ?_ ?_; rotate_left; (focus (first | exact List.length_map _ | (refine wid ?_ ?_ <;> omega) | (refine wdiv ?_ ?_ ?_ <;> omega))); conv => whnf))
 refine Out.mk false [0, 1, 2, 3, 4] [] ?_
 try (conv => whnf)
 exact ⟨_, _, [], rfl, hS, _, rfl, rfl, by omega, by omega⟩
end
end Go.Proofs.Ytpdjehnlejjfmaa.D
