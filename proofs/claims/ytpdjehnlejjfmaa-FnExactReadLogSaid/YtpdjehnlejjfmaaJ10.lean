/- A log read out of bytes, by the reference: all of it. -/
import Derived.WalkKit
import Derived.ProofKit
import Derived.OpenShut
import Derived.ShutString
import Derived.ChangeOld
import Derived.Below
import Derived.SizedLaws
import Derived.ChangeSlices
import Derived.SliceStrings
import Derived.Test.YtpdjehnlejjfmaaJ9
set_option linter.unusedVariables false
set_option linter.unusedSimpArgs false
namespace Go.Proofs.Ytpdjehnlejjfmaa.D
open Go.RowKit
set_option maxRecDepth 100000
set_option maxHeartbeats 40000000
set_option linter.unusedVariables false
set_option linter.unusedSimpArgs false

theorem s_ReadLog (l : List UInt8) (hl : l.length ≤ 2 ^ 47) : CallM Try.prog id_spec_ReadLog [vY l] [] [] false (RlS l) := by
 refine F_spec_ReadLog ?_
 by_cases hlong : l.length > 1048576
 ·try (conv => whnf)
  repeat' (first
   | (refine Pick.mk ?_ ?_ ?_; rotate_left; (focus (first | exact List.length_map _ | (simp only [chunks]; rfl))); conv => whnf)
   | (refine SeqJ.thru ?_; conv => whnf)
   | (refine br_dec (fun _ => ?_) (fun _ => ?_) <;> first | (exfalso; omega) | contradiction | conv => whnf)
   | (refine br_not ?_; conv => whnf)
   | (refine br_bne (fun _ => ?_) (fun _ => ?_) <;> first | (exfalso; omega) | contradiction | conv => whnf)
   | (refine br_beq (fun _ => ?_) (fun _ => ?_) <;> first | (exfalso; omega) | contradiction | conv => whnf))
  refine Out.mk false [0, 1, 2, 3, 4] [] ?_
  try (conv => whnf)
  exact ⟨⟨[], 2, rl_long hlong, rfl, rfl⟩⟩
 by_cases h4 : l.length < 4
 ·try (conv => whnf)
  repeat' (first
   | (refine Need.mk ?_ ?_; (focus ((show rechs _ _ _ _; (conv => whnf); (repeat (first | (refine Need.mk ?_ ?_; (focus (first | with_reducible rfl | omega | (simp; done) | rfl)); conv => whnf) | (refine Pick.mk ?_ ?_ ?_; rotate_left; (focus (first | with_reducible exact xor_u8 _ _ | (with_reducible refine xor_i64 ?_ ?_; all_goals omega) | (with_reducible refine xor_u32 ?_ ?_; all_goals omega) | exact map_snoc oD _ _ | exact map_snoc lsE _ _ | (with_reducible refine pick_nat _ _ _ ?_; omega) | exact htk | with_reducible exact pd | with_reducible exact pe | with_reducible exact hzt.out | with_reducible exact p0 | with_reducible exact p1 | with_reducible exact p2 | with_reducible exact p3 | with_reducible exact p4 | with_reducible exact p5 | with_reducible exact p6 | with_reducible exact p7 | with_reducible exact p8 | assumption | with_reducible exact set_byN _ _ _ _ | with_reducible exact set_byI _ _ _ _ | with_reducible exact set_inN _ _ _ _ | with_reducible exact set_inI _ _ _ _ | with_reducible exact set_stN _ _ _ _ | with_reducible exact set_tsN _ _ _ _ | with_reducible exact set_tsI _ _ _ _ | with_reducible exact set_boN _ _ _ _ | with_reducible exact set_boI _ _ _ _ | (with_reducible refine get_mapN _ _ _ ?_; first | omega | (simp; omega)) | (with_reducible refine get_mapI _ _ _ ?_ ?_ <;> first | omega | (simp; omega)) | exact bs_beq _ _ | exact bs_less _ _ | exact bs_leq _ _ | with_reducible exact bs_app _ _ | (refine bs_get _ _ ?_; omega) | (refine bs_int _ _ ?_ ?_ <;> omega) | with_reducible exact sl_map0 _ _ _ | with_reducible exact sl_mapN _ _ _ | with_reducible exact sl_map _ _ _ _ | exact bs_extract0 _ _ | exact bs_extractN _ _ | exact bs_extract _ _ _ | (refine bnd_id ?_; omega) | (refine bnd_sub ?_ ?_ <;> omega) | (refine bnd_add ?_; omega) | (refine bnd_subN ?_ ?_ <;> omega) | (refine bnd_int ?_ ?_ <;> omega) | ((show @Eq Nat (_ + Int.toNat _ * _) _); simp only [Int.toNat_natCast, Nat.zero_add, Nat.mul_one]; rfl) | ((show @Eq (List _) (List.set [_] _ _) _); simp only [List.set_cons_zero]; rfl) | exact List.length_map _ | exact size_bs _ | (simp only [List.length_map, List.length_append, List.length_cons, List.length_nil, List.length_replicate, Nat.zero_add]; rfl) | with_reducible exact List.nil_append _ | with_reducible exact map_app _ _ _ | exact map_snoc byD _ _ | exact map_snoc inD _ _ | exact map_snoc stD _ _ | exact map_snoc tsD _ _ | (simp only [chunks]; rfl) | (refine wid ?_ ?_ <;> omega) | exact wby _ | with_reducible exact wby32 _ | with_reducible exact wu32 _ | exact wby64 _ | exact shr8 _ | exact shr16 _ | exact shr24 _ | exact shr32 _ | (refine tmodn ?_; omega) | (refine wdiv ?_ ?_ ?_ <;> omega) | exact wbyte _ | exact natlit _ | exact rep_by _ | exact rep_in _ | exact rep_bo _ | exact rep_st _ | (refine pick_nat _ _ _ ?_; omega) | (refine pick_int _ _ _ ?_ ?_ <;> omega) | (refine SlOf.full ?_; first | (simp; done) | (simp; omega)) | (with_reducible refine SlOf.pre _ _ ?_; first | omega | (simp; omega)) | (refine SlF.self _ _ ?_ ?_; (first | rfl | omega | (simp; done) | (simp; omega)); (exact fun _ => rfl)) | (refine SlF.pre _ _ ?_ ?_; (first | omega | (simp; omega)); (exact fun _ => rfl)) | (refine SlF.same ?_ ?_; (first | rfl | omega | (simp; done) | (simp; omega)); (first | exact fz_self _ _ (fun _ => rfl) | exact fz_pl rfl | (refine Fz.append ?_ ?_ <;> first | exact fz_self _ _ (fun _ => rfl) | exact fz_pl rfl) | (refine Fz.append (Fz.append ?_ ?_) ?_ <;> first | exact fz_self _ _ (fun _ => rfl) | exact fz_pl rfl))) | (simp only [Int.toNat_natCast, Nat.zero_add, Nat.mul_one]; rfl) | ((show @Eq (Option CV) _ _); rfl) | ((fail_if_success (show @Eq (Option _) _ _)); rfl) | ((show @Eq (Option _) _ _); simp only [List.getElem?_cons_zero, List.getElem?_cons_succ]; done) | ((show @Eq (Option _) _ _); simp only [List.getElem?_cons_zero, List.getElem?_cons_succ]; rfl) | with_reducible rfl)); conv => whnf))); exact Done.mk trivial))); conv => whnf)
   | (refine Pick.mk ?_ ?_ ?_; rotate_left; (focus (first | exact List.length_map _ | (simp only [chunks]; rfl) | (refine wid ?_ ?_ <;> omega))); conv => whnf)
   | (refine SeqJ.thru ?_; conv => whnf)
   | (refine br_dec (fun _ => ?_) (fun _ => ?_) <;> first | (exfalso; omega) | contradiction | conv => whnf)
   | (refine br_not ?_; conv => whnf)
   | (refine br_bne (fun _ => ?_) (fun _ => ?_) <;> first | (exfalso; omega) | contradiction | conv => whnf)
   | (refine br_beq (fun _ => ?_) (fun _ => ?_) <;> first | (exfalso; omega) | contradiction | conv => whnf))
  refine Out.mk false [0, 1, 2, 3, 4] [] ?_
  try (conv => whnf)
  exact ⟨⟨[], 10, rl_sum hlong (.inl h4), rfl, rfl⟩⟩
 have hsb := sumH_lt (h := 2166136261) (by omega) (l.take (l.length - 4))
 have cs1 := s_Sum32 (l.take (l.length - 4)) (by simp; omega)
 by_cases hs : four (sumH 2166136261 (l.take (l.length - 4))) = l.drop (l.length - 4)
 rotate_left
 ·try (conv => whnf)
  repeat' (first
   | (refine Need.mk ?_ ?_; (focus ((simp; done))); conv => whnf)
   | (refine Pick.mk ?_ ?_ ?_; rotate_left; (focus (first | with_reducible exact sl_map0 _ _ _ | with_reducible exact sl_mapN _ _ _ | (refine bnd_sub ?_ ?_ <;> omega) | exact List.length_map _ | (simp only [List.length_map, List.length_append, List.length_cons, List.length_nil, List.length_replicate, Nat.zero_add]; rfl) | (refine wid ?_ ?_ <;> omega))); conv => whnf)
   | (refine SeqJ.thru ?_; conv => whnf)
   | (refine br_dec (fun _ => ?_) (fun _ => ?_) <;> first | (exfalso; omega) | contradiction | conv => whnf)
   | (refine br_not ?_; conv => whnf)
   | (refine br_bne (fun _ => ?_) (fun _ => ?_) <;> first | (exfalso; omega) | contradiction | conv => whnf)
   | (refine br_beq (fun _ => ?_) (fun _ => ?_) <;> first | (exfalso; omega) | contradiction | conv => whnf))
  refine Hand.mk [] ?_
  try (conv => whnf)
  refine CallW.d (cs1) ?_
  try (conv => whnf)
  repeat (refine Need.mk ?_ ?_; (focus ((show rechs _ _ _ _; (conv => whnf); (repeat (first | (refine Need.mk ?_ ?_; (focus (first | with_reducible rfl | omega | (simp; done) | rfl)); conv => whnf) | (refine Pick.mk ?_ ?_ ?_; rotate_left; (focus (first | with_reducible exact xor_u8 _ _ | (with_reducible refine xor_i64 ?_ ?_; all_goals omega) | (with_reducible refine xor_u32 ?_ ?_; all_goals omega) | exact map_snoc oD _ _ | exact map_snoc lsE _ _ | (with_reducible refine pick_nat _ _ _ ?_; omega) | exact htk | with_reducible exact pd | with_reducible exact pe | with_reducible exact hzt.out | with_reducible exact p0 | with_reducible exact p1 | with_reducible exact p2 | with_reducible exact p3 | with_reducible exact p4 | with_reducible exact p5 | with_reducible exact p6 | with_reducible exact p7 | with_reducible exact p8 | assumption | with_reducible exact set_byN _ _ _ _ | with_reducible exact set_byI _ _ _ _ | with_reducible exact set_inN _ _ _ _ | with_reducible exact set_inI _ _ _ _ | with_reducible exact set_stN _ _ _ _ | with_reducible exact set_tsN _ _ _ _ | with_reducible exact set_tsI _ _ _ _ | with_reducible exact set_boN _ _ _ _ | with_reducible exact set_boI _ _ _ _ | (with_reducible refine get_mapN _ _ _ ?_; first | omega | (simp; omega)) | (with_reducible refine get_mapI _ _ _ ?_ ?_ <;> first | omega | (simp; omega)) | exact bs_beq _ _ | exact bs_less _ _ | exact bs_leq _ _ | with_reducible exact bs_app _ _ | (refine bs_get _ _ ?_; omega) | (refine bs_int _ _ ?_ ?_ <;> omega) | with_reducible exact sl_map0 _ _ _ | with_reducible exact sl_mapN _ _ _ | with_reducible exact sl_map _ _ _ _ | exact bs_extract0 _ _ | exact bs_extractN _ _ | exact bs_extract _ _ _ | (refine bnd_id ?_; omega) | (refine bnd_sub ?_ ?_ <;> omega) | (refine bnd_add ?_; omega) | (refine bnd_subN ?_ ?_ <;> omega) | (refine bnd_int ?_ ?_ <;> omega) | ((show @Eq Nat (_ + Int.toNat _ * _) _); simp only [Int.toNat_natCast, Nat.zero_add, Nat.mul_one]; rfl) | ((show @Eq (List _) (List.set [_] _ _) _); simp only [List.set_cons_zero]; rfl) | exact List.length_map _ | exact size_bs _ | (simp only [List.length_map, List.length_append, List.length_cons, List.length_nil, List.length_replicate, Nat.zero_add]; rfl) | with_reducible exact List.nil_append _ | with_reducible exact map_app _ _ _ | exact map_snoc byD _ _ | exact map_snoc inD _ _ | exact map_snoc stD _ _ | exact map_snoc tsD _ _ | (simp only [chunks]; rfl) | (refine wid ?_ ?_ <;> omega) | exact wby _ | with_reducible exact wby32 _ | with_reducible exact wu32 _ | exact wby64 _ | exact shr8 _ | exact shr16 _ | exact shr24 _ | exact shr32 _ | (refine tmodn ?_; omega) | (refine wdiv ?_ ?_ ?_ <;> omega) | exact wbyte _ | exact natlit _ | exact rep_by _ | exact rep_in _ | exact rep_bo _ | exact rep_st _ | (refine pick_nat _ _ _ ?_; omega) | (refine pick_int _ _ _ ?_ ?_ <;> omega) | (refine SlOf.full ?_; first | (simp; done) | (simp; omega)) | (with_reducible refine SlOf.pre _ _ ?_; first | omega | (simp; omega)) | (refine SlF.self _ _ ?_ ?_; (first | rfl | omega | (simp; done) | (simp; omega)); (exact fun _ => rfl)) | (refine SlF.pre _ _ ?_ ?_; (first | omega | (simp; omega)); (exact fun _ => rfl)) | (refine SlF.same ?_ ?_; (first | rfl | omega | (simp; done) | (simp; omega)); (first | exact fz_self _ _ (fun _ => rfl) | exact fz_pl rfl | (refine Fz.append ?_ ?_ <;> first | exact fz_self _ _ (fun _ => rfl) | exact fz_pl rfl) | (refine Fz.append (Fz.append ?_ ?_) ?_ <;> first | exact fz_self _ _ (fun _ => rfl) | exact fz_pl rfl))) | (simp only [Int.toNat_natCast, Nat.zero_add, Nat.mul_one]; rfl) | ((show @Eq (Option CV) _ _); rfl) | ((fail_if_success (show @Eq (Option _) _ _)); rfl) | ((show @Eq (Option _) _ _); simp only [List.getElem?_cons_zero, List.getElem?_cons_succ]; done) | ((show @Eq (Option _) _ _); simp only [List.getElem?_cons_zero, List.getElem?_cons_succ]; rfl) | with_reducible rfl)); conv => whnf))); exact Done.mk trivial))); conv => whnf)
  refine Hand.mk [] ?_
  try (conv => whnf)
  refine CallW.d (s_l01Four (sumH 2166136261 (l.take (l.length - 4))) (by omega) (by omega)) ?_
  try (conv => whnf)
  repeat (first
   | (refine Need.mk ?_ ?_; (focus ((show rechs _ _ _ _; (conv => whnf); (repeat (first | (refine Need.mk ?_ ?_; (focus (first | with_reducible rfl | omega | (simp; done) | rfl)); conv => whnf) | (refine Pick.mk ?_ ?_ ?_; rotate_left; (focus (first | with_reducible exact xor_u8 _ _ | (with_reducible refine xor_i64 ?_ ?_; all_goals omega) | (with_reducible refine xor_u32 ?_ ?_; all_goals omega) | exact map_snoc oD _ _ | exact map_snoc lsE _ _ | (with_reducible refine pick_nat _ _ _ ?_; omega) | exact htk | with_reducible exact pd | with_reducible exact pe | with_reducible exact hzt.out | with_reducible exact p0 | with_reducible exact p1 | with_reducible exact p2 | with_reducible exact p3 | with_reducible exact p4 | with_reducible exact p5 | with_reducible exact p6 | with_reducible exact p7 | with_reducible exact p8 | assumption | with_reducible exact set_byN _ _ _ _ | with_reducible exact set_byI _ _ _ _ | with_reducible exact set_inN _ _ _ _ | with_reducible exact set_inI _ _ _ _ | with_reducible exact set_stN _ _ _ _ | with_reducible exact set_tsN _ _ _ _ | with_reducible exact set_tsI _ _ _ _ | with_reducible exact set_boN _ _ _ _ | with_reducible exact set_boI _ _ _ _ | (with_reducible refine get_mapN _ _ _ ?_; first | omega | (simp; omega)) | (with_reducible refine get_mapI _ _ _ ?_ ?_ <;> first | omega | (simp; omega)) | exact bs_beq _ _ | exact bs_less _ _ | exact bs_leq _ _ | with_reducible exact bs_app _ _ | (refine bs_get _ _ ?_; omega) | (refine bs_int _ _ ?_ ?_ <;> omega) | with_reducible exact sl_map0 _ _ _ | with_reducible exact sl_mapN _ _ _ | with_reducible exact sl_map _ _ _ _ | exact bs_extract0 _ _ | exact bs_extractN _ _ | exact bs_extract _ _ _ | (refine bnd_id ?_; omega) | (refine bnd_sub ?_ ?_ <;> omega) | (refine bnd_add ?_; omega) | (refine bnd_subN ?_ ?_ <;> omega) | (refine bnd_int ?_ ?_ <;> omega) | ((show @Eq Nat (_ + Int.toNat _ * _) _); simp only [Int.toNat_natCast, Nat.zero_add, Nat.mul_one]; rfl) | ((show @Eq (List _) (List.set [_] _ _) _); simp only [List.set_cons_zero]; rfl) | exact List.length_map _ | exact size_bs _ | (simp only [List.length_map, List.length_append, List.length_cons, List.length_nil, List.length_replicate, Nat.zero_add]; rfl) | with_reducible exact List.nil_append _ | with_reducible exact map_app _ _ _ | exact map_snoc byD _ _ | exact map_snoc inD _ _ | exact map_snoc stD _ _ | exact map_snoc tsD _ _ | (simp only [chunks]; rfl) | (refine wid ?_ ?_ <;> omega) | exact wby _ | with_reducible exact wby32 _ | with_reducible exact wu32 _ | exact wby64 _ | exact shr8 _ | exact shr16 _ | exact shr24 _ | exact shr32 _ | (refine tmodn ?_; omega) | (refine wdiv ?_ ?_ ?_ <;> omega) | exact wbyte _ | exact natlit _ | exact rep_by _ | exact rep_in _ | exact rep_bo _ | exact rep_st _ | (refine pick_nat _ _ _ ?_; omega) | (refine pick_int _ _ _ ?_ ?_ <;> omega) | (refine SlOf.full ?_; first | (simp; done) | (simp; omega)) | (with_reducible refine SlOf.pre _ _ ?_; first | omega | (simp; omega)) | (refine SlF.self _ _ ?_ ?_; (first | rfl | omega | (simp; done) | (simp; omega)); (exact fun _ => rfl)) | (refine SlF.pre _ _ ?_ ?_; (first | omega | (simp; omega)); (exact fun _ => rfl)) | (refine SlF.same ?_ ?_; (first | rfl | omega | (simp; done) | (simp; omega)); (first | exact fz_self _ _ (fun _ => rfl) | exact fz_pl rfl | (refine Fz.append ?_ ?_ <;> first | exact fz_self _ _ (fun _ => rfl) | exact fz_pl rfl) | (refine Fz.append (Fz.append ?_ ?_) ?_ <;> first | exact fz_self _ _ (fun _ => rfl) | exact fz_pl rfl))) | (simp only [Int.toNat_natCast, Nat.zero_add, Nat.mul_one]; rfl) | ((show @Eq (Option CV) _ _); rfl) | ((fail_if_success (show @Eq (Option _) _ _)); rfl) | ((show @Eq (Option _) _ _); simp only [List.getElem?_cons_zero, List.getElem?_cons_succ]; done) | ((show @Eq (Option _) _ _); simp only [List.getElem?_cons_zero, List.getElem?_cons_succ]; rfl) | with_reducible rfl)); conv => whnf))); exact Done.mk trivial))); conv => whnf)
   | (refine Pick.mk ?_ ?_ ?_; rotate_left; (focus (first | exact bs_beq _ _ | (refine SlOf.full ?_; first | (simp; done) | (simp; omega)))); conv => whnf))
  try (conv => whnf)
  repeat' (first
   | (refine Pick.mk ?_ ?_ ?_; rotate_left; (focus ((simp only [chunks]; rfl))); conv => whnf)
   | (refine br_dec (fun _ => ?_) (fun _ => ?_) <;> first | (exfalso; omega) | contradiction | conv => whnf)
   | (refine br_not ?_; conv => whnf)
   | (refine br_bne (fun _ => ?_) (fun _ => ?_) <;> first | (exfalso; omega) | contradiction | conv => whnf)
   | (refine br_beq (fun _ => ?_) (fun _ => ?_) <;> first | (exfalso; omega) | contradiction | conv => whnf))
  refine Out.mk false [0, 1, 2, 3, 4] [] ?_
  try (conv => whnf)
  exact ⟨⟨[], 10, rl_sum hlong (.inr hs), rfl, rfl⟩⟩
 have hD4 : (l.drop (l.length - 4)).length = 4 := by simp; omega
 obtain ⟨b, hb⟩ : ∃ b, b = l.take (l.length - 4) := ⟨_, rfl⟩
 have hbl : b.length = l.length - 4 := by rw [hb]; simp
 have hNo : NoLog b → NoLog (l.take (l.length - 4)) := fun h => by rw [← hb]; exact h
 try (conv => whnf)
 repeat' (first
  | (refine Need.mk ?_ ?_; (focus ((simp; done))); conv => whnf)
  | (refine Pick.mk ?_ ?_ ?_; rotate_left; (focus (first | with_reducible exact sl_map0 _ _ _ | with_reducible exact sl_mapN _ _ _ | (refine bnd_sub ?_ ?_ <;> omega) | exact List.length_map _ | (simp only [List.length_map, List.length_append, List.length_cons, List.length_nil, List.length_replicate, Nat.zero_add]; rfl) | (refine wid ?_ ?_ <;> omega))); conv => whnf)
  | (refine SeqJ.thru ?_; conv => whnf)
  | (refine br_dec (fun _ => ?_) (fun _ => ?_) <;> first | (exfalso; omega) | contradiction | conv => whnf)
  | (refine br_not ?_; conv => whnf)
  | (refine br_bne (fun _ => ?_) (fun _ => ?_) <;> first | (exfalso; omega) | contradiction | conv => whnf)
  | (refine br_beq (fun _ => ?_) (fun _ => ?_) <;> first | (exfalso; omega) | contradiction | conv => whnf))
 refine Hand.mk [] ?_
 try (conv => whnf)
 refine CallW.d (cs1) ?_
 try (conv => whnf)
 repeat (refine Need.mk ?_ ?_; (focus ((show rechs _ _ _ _; (conv => whnf); (repeat (first | (refine Need.mk ?_ ?_; (focus (first | with_reducible rfl | omega | (simp; done) | rfl)); conv => whnf) | (refine Pick.mk ?_ ?_ ?_; rotate_left; (focus (first | with_reducible exact xor_u8 _ _ | (with_reducible refine xor_i64 ?_ ?_; all_goals omega) | (with_reducible refine xor_u32 ?_ ?_; all_goals omega) | exact map_snoc oD _ _ | exact map_snoc lsE _ _ | (with_reducible refine pick_nat _ _ _ ?_; omega) | exact htk | with_reducible exact pd | with_reducible exact pe | with_reducible exact hzt.out | with_reducible exact p0 | with_reducible exact p1 | with_reducible exact p2 | with_reducible exact p3 | with_reducible exact p4 | with_reducible exact p5 | with_reducible exact p6 | with_reducible exact p7 | with_reducible exact p8 | assumption | with_reducible exact set_byN _ _ _ _ | with_reducible exact set_byI _ _ _ _ | with_reducible exact set_inN _ _ _ _ | with_reducible exact set_inI _ _ _ _ | with_reducible exact set_stN _ _ _ _ | with_reducible exact set_tsN _ _ _ _ | with_reducible exact set_tsI _ _ _ _ | with_reducible exact set_boN _ _ _ _ | with_reducible exact set_boI _ _ _ _ | (with_reducible refine get_mapN _ _ _ ?_; first | omega | (simp; omega)) | (with_reducible refine get_mapI _ _ _ ?_ ?_ <;> first | omega | (simp; omega)) | exact bs_beq _ _ | exact bs_less _ _ | exact bs_leq _ _ | with_reducible exact bs_app _ _ | (refine bs_get _ _ ?_; omega) | (refine bs_int _ _ ?_ ?_ <;> omega) | with_reducible exact sl_map0 _ _ _ | with_reducible exact sl_mapN _ _ _ | with_reducible exact sl_map _ _ _ _ | exact bs_extract0 _ _ | exact bs_extractN _ _ | exact bs_extract _ _ _ | (refine bnd_id ?_; omega) | (refine bnd_sub ?_ ?_ <;> omega) | (refine bnd_add ?_; omega) | (refine bnd_subN ?_ ?_ <;> omega) | (refine bnd_int ?_ ?_ <;> omega) | ((show @Eq Nat (_ + Int.toNat _ * _) _); simp only [Int.toNat_natCast, Nat.zero_add, Nat.mul_one]; rfl) | ((show @Eq (List _) (List.set [_] _ _) _); simp only [List.set_cons_zero]; rfl) | exact List.length_map _ | exact size_bs _ | (simp only [List.length_map, List.length_append, List.length_cons, List.length_nil, List.length_replicate, Nat.zero_add]; rfl) | with_reducible exact List.nil_append _ | with_reducible exact map_app _ _ _ | exact map_snoc byD _ _ | exact map_snoc inD _ _ | exact map_snoc stD _ _ | exact map_snoc tsD _ _ | (simp only [chunks]; rfl) | (refine wid ?_ ?_ <;> omega) | exact wby _ | with_reducible exact wby32 _ | with_reducible exact wu32 _ | exact wby64 _ | exact shr8 _ | exact shr16 _ | exact shr24 _ | exact shr32 _ | (refine tmodn ?_; omega) | (refine wdiv ?_ ?_ ?_ <;> omega) | exact wbyte _ | exact natlit _ | exact rep_by _ | exact rep_in _ | exact rep_bo _ | exact rep_st _ | (refine pick_nat _ _ _ ?_; omega) | (refine pick_int _ _ _ ?_ ?_ <;> omega) | (refine SlOf.full ?_; first | (simp; done) | (simp; omega)) | (with_reducible refine SlOf.pre _ _ ?_; first | omega | (simp; omega)) | (refine SlF.self _ _ ?_ ?_; (first | rfl | omega | (simp; done) | (simp; omega)); (exact fun _ => rfl)) | (refine SlF.pre _ _ ?_ ?_; (first | omega | (simp; omega)); (exact fun _ => rfl)) | (refine SlF.same ?_ ?_; (first | rfl | omega | (simp; done) | (simp; omega)); (first | exact fz_self _ _ (fun _ => rfl) | exact fz_pl rfl | (refine Fz.append ?_ ?_ <;> first | exact fz_self _ _ (fun _ => rfl) | exact fz_pl rfl) | (refine Fz.append (Fz.append ?_ ?_) ?_ <;> first | exact fz_self _ _ (fun _ => rfl) | exact fz_pl rfl))) | (simp only [Int.toNat_natCast, Nat.zero_add, Nat.mul_one]; rfl) | ((show @Eq (Option CV) _ _); rfl) | ((fail_if_success (show @Eq (Option _) _ _)); rfl) | ((show @Eq (Option _) _ _); simp only [List.getElem?_cons_zero, List.getElem?_cons_succ]; done) | ((show @Eq (Option _) _ _); simp only [List.getElem?_cons_zero, List.getElem?_cons_succ]; rfl) | with_reducible rfl)); conv => whnf))); exact Done.mk trivial))); conv => whnf)
 refine Hand.mk [] ?_
 try (conv => whnf)
 refine CallW.d (s_l01Four (sumH 2166136261 (l.take (l.length - 4))) (by omega) (by omega)) ?_
 try (conv => whnf)
 repeat (first
  | (refine Need.mk ?_ ?_; (focus ((show rechs _ _ _ _; (conv => whnf); (repeat (first | (refine Need.mk ?_ ?_; (focus (first | with_reducible rfl | omega | (simp; done) | rfl)); conv => whnf) | (refine Pick.mk ?_ ?_ ?_; rotate_left; (focus (first | with_reducible exact xor_u8 _ _ | (with_reducible refine xor_i64 ?_ ?_; all_goals omega) | (with_reducible refine xor_u32 ?_ ?_; all_goals omega) | exact map_snoc oD _ _ | exact map_snoc lsE _ _ | (with_reducible refine pick_nat _ _ _ ?_; omega) | exact htk | with_reducible exact pd | with_reducible exact pe | with_reducible exact hzt.out | with_reducible exact p0 | with_reducible exact p1 | with_reducible exact p2 | with_reducible exact p3 | with_reducible exact p4 | with_reducible exact p5 | with_reducible exact p6 | with_reducible exact p7 | with_reducible exact p8 | assumption | with_reducible exact set_byN _ _ _ _ | with_reducible exact set_byI _ _ _ _ | with_reducible exact set_inN _ _ _ _ | with_reducible exact set_inI _ _ _ _ | with_reducible exact set_stN _ _ _ _ | with_reducible exact set_tsN _ _ _ _ | with_reducible exact set_tsI _ _ _ _ | with_reducible exact set_boN _ _ _ _ | with_reducible exact set_boI _ _ _ _ | (with_reducible refine get_mapN _ _ _ ?_; first | omega | (simp; omega)) | (with_reducible refine get_mapI _ _ _ ?_ ?_ <;> first | omega | (simp; omega)) | exact bs_beq _ _ | exact bs_less _ _ | exact bs_leq _ _ | with_reducible exact bs_app _ _ | (refine bs_get _ _ ?_; omega) | (refine bs_int _ _ ?_ ?_ <;> omega) | with_reducible exact sl_map0 _ _ _ | with_reducible exact sl_mapN _ _ _ | with_reducible exact sl_map _ _ _ _ | exact bs_extract0 _ _ | exact bs_extractN _ _ | exact bs_extract _ _ _ | (refine bnd_id ?_; omega) | (refine bnd_sub ?_ ?_ <;> omega) | (refine bnd_add ?_; omega) | (refine bnd_subN ?_ ?_ <;> omega) | (refine bnd_int ?_ ?_ <;> omega) | ((show @Eq Nat (_ + Int.toNat _ * _) _); simp only [Int.toNat_natCast, Nat.zero_add, Nat.mul_one]; rfl) | ((show @Eq (List _) (List.set [_] _ _) _); simp only [List.set_cons_zero]; rfl) | exact List.length_map _ | exact size_bs _ | (simp only [List.length_map, List.length_append, List.length_cons, List.length_nil, List.length_replicate, Nat.zero_add]; rfl) | with_reducible exact List.nil_append _ | with_reducible exact map_app _ _ _ | exact map_snoc byD _ _ | exact map_snoc inD _ _ | exact map_snoc stD _ _ | exact map_snoc tsD _ _ | (simp only [chunks]; rfl) | (refine wid ?_ ?_ <;> omega) | exact wby _ | with_reducible exact wby32 _ | with_reducible exact wu32 _ | exact wby64 _ | exact shr8 _ | exact shr16 _ | exact shr24 _ | exact shr32 _ | (refine tmodn ?_; omega) | (refine wdiv ?_ ?_ ?_ <;> omega) | exact wbyte _ | exact natlit _ | exact rep_by _ | exact rep_in _ | exact rep_bo _ | exact rep_st _ | (refine pick_nat _ _ _ ?_; omega) | (refine pick_int _ _ _ ?_ ?_ <;> omega) | (refine SlOf.full ?_; first | (simp; done) | (simp; omega)) | (with_reducible refine SlOf.pre _ _ ?_; first | omega | (simp; omega)) | (refine SlF.self _ _ ?_ ?_; (first | rfl | omega | (simp; done) | (simp; omega)); (exact fun _ => rfl)) | (refine SlF.pre _ _ ?_ ?_; (first | omega | (simp; omega)); (exact fun _ => rfl)) | (refine SlF.same ?_ ?_; (first | rfl | omega | (simp; done) | (simp; omega)); (first | exact fz_self _ _ (fun _ => rfl) | exact fz_pl rfl | (refine Fz.append ?_ ?_ <;> first | exact fz_self _ _ (fun _ => rfl) | exact fz_pl rfl) | (refine Fz.append (Fz.append ?_ ?_) ?_ <;> first | exact fz_self _ _ (fun _ => rfl) | exact fz_pl rfl))) | (simp only [Int.toNat_natCast, Nat.zero_add, Nat.mul_one]; rfl) | ((show @Eq (Option CV) _ _); rfl) | ((fail_if_success (show @Eq (Option _) _ _)); rfl) | ((show @Eq (Option _) _ _); simp only [List.getElem?_cons_zero, List.getElem?_cons_succ]; done) | ((show @Eq (Option _) _ _); simp only [List.getElem?_cons_zero, List.getElem?_cons_succ]; rfl) | with_reducible rfl)); conv => whnf))); exact Done.mk trivial))); conv => whnf)
  | (refine Pick.mk ?_ ?_ ?_; rotate_left; (focus (first | exact bs_beq _ _ | (refine SlOf.full ?_; first | (simp; done) | (simp; omega)))); conv => whnf))
 try (conv => whnf)
 repeat' (first
  | (refine Need.mk ?_ ?_; (focus ((simp; done))); conv => whnf)
  | (refine Pick.mk ?_ ?_ ?_; rotate_left; (focus (first | with_reducible exact sl_map0 _ _ _ | (refine bnd_sub ?_ ?_ <;> omega) | exact List.length_map _ | (simp only [chunks]; rfl))); conv => whnf)
  | (refine br_dec (fun _ => ?_) (fun _ => ?_) <;> first | (exfalso; omega) | contradiction | conv => whnf)
  | (refine br_not ?_; conv => whnf)
  | (refine br_bne (fun _ => ?_) (fun _ => ?_) <;> first | (exfalso; omega) | contradiction | conv => whnf)
  | (refine br_beq (fun _ => ?_) (fun _ => ?_) <;> first | (exfalso; omega) | contradiction | conv => whnf))
 refine LoopE.mk (fun x : List (List Int) × Nat × Bool => mk [(0, vY l), (4, vI .i64 b.length), (5, .one (.ptr 28736 0)), (6, .one (.os (.v 32768) 1 0 x.1.length)), (7, vI .i64 x.1.length)] [(28736, rdR b x.2.1 x.2.2), (32768, .own 1 (x.1.map lsE))])
  (fun x => (x.1.length ≤ 25 ∧ x.2.1 ≤ b.length) ∧ (∀ c ∈ x.1, c.length ≤ 4096) ∧ if x.2.2 then NoLog b else (Thru b x.1 x.2.1 ∧ ∀ c ∈ x.1, ∀ y ∈ c, inM y)) (fun x => 25 - x.1.length) ([], 0, false) ⟨by simp, by simp, by simp [thru_nil]⟩ (LeX.of ?_) ?_
 ·try (conv => whnf)
  repeat (refine Need.mk ?_ ?_; (focus (first | omega | (simp only [List.length_map, List.length_append, List.length_cons, List.length_nil, List.length_replicate]; omega) | (simp; done))); conv => whnf)
  refine Need.mk (by rw [hb]) ?_
  try (conv => whnf)
  repeat (refine Need.mk ?_ ?_; (focus (first | (simp only [List.length_map, List.length_append, List.length_cons, List.length_nil, List.length_replicate]; omega) | (simp; done) | rfl)); conv => whnf)
  trivial
 ·rintro ⟨cs, a, bad⟩ ⟨⟨h1, h2⟩, h7, h3⟩
  dsimp only at h1 h2 h3 h7 ⊢
  by_cases h25 : cs.length < 25
  ·cases bad with
   | true =>
    rw [if_pos rfl] at h3
    try (conv => whnf)
    repeat' (first
     | (refine SeqJ.thru ?_; conv => whnf)
     | (refine br_dec (fun _ => ?_) (fun _ => ?_) <;> first | (exfalso; omega) | contradiction | conv => whnf)
     | (refine br_not ?_; conv => whnf)
     | (refine br_bne (fun _ => ?_) (fun _ => ?_) <;> first | (exfalso; omega) | contradiction | conv => whnf)
     | (refine br_beq (fun _ => ?_) (fun _ => ?_) <;> first | (exfalso; omega) | contradiction | conv => whnf))
    refine Hand.mk [] ?_
    try (conv => whnf)
    refine CallW.n (s_runsB (by omega) h2) ?_
    rintro _ _ ⟨a', rfl, rfl, ha'⟩
    try (conv => whnf)
    repeat (first
     | (refine Need.mk ?_ ?_; (focus (first | omega | rfl)); conv => whnf)
     | (refine Pick.mk ?_ ?_ ?_; rotate_left; (focus (first | (simp only [List.length_map, List.length_append, List.length_cons, List.length_nil, List.length_replicate, Nat.zero_add]; rfl) | (simp only [chunks]; rfl) | (refine wid ?_ ?_ <;> omega) | (refine SlOf.full ?_; first | (simp; done) | (simp; omega)) | (refine SlF.same ?_ ?_; (first | rfl | omega | (simp; done) | (simp; omega)); (first | exact fz_self _ _ (fun _ => rfl) | exact fz_pl rfl | (refine Fz.append ?_ ?_ <;> first | exact fz_self _ _ (fun _ => rfl) | exact fz_pl rfl) | (refine Fz.append (Fz.append ?_ ?_) ?_ <;> first | exact fz_self _ _ (fun _ => rfl) | exact fz_pl rfl))) | ((fail_if_success (show @Eq (Option _) _ _)); rfl))); conv => whnf)
     | (refine OwnQ.mk false ?_; conv => whnf))
    refine Pick.mk (cs ++ [[]], a', true) ⟨⟨⟨by simp; omega, ha'⟩, fun c hc => ?_, h3⟩, by simp; omega⟩ (LeX.of ?_)
    ·rcases List.mem_append.1 hc with hc | hc
     ·exact h7 c hc
     ·simp only [List.mem_singleton] at hc; subst hc; simp
    ·try (conv => whnf)
     repeat (refine Need.mk ?_ ?_; (focus (first | omega | (simp only [List.length_map, List.length_append, List.length_cons, List.length_nil, List.length_replicate]; omega) | (simp; done))); conv => whnf)
     trivial
   | false =>
    rw [if_neg (by simp)] at h3
    try (conv => whnf)
    repeat' (first
     | (refine SeqJ.thru ?_; conv => whnf)
     | (refine br_dec (fun _ => ?_) (fun _ => ?_) <;> first | (exfalso; omega) | contradiction | conv => whnf)
     | (refine br_not ?_; conv => whnf)
     | (refine br_bne (fun _ => ?_) (fun _ => ?_) <;> first | (exfalso; omega) | contradiction | conv => whnf)
     | (refine br_beq (fun _ => ?_) (fun _ => ?_) <;> first | (exfalso; omega) | contradiction | conv => whnf))
    refine Hand.mk [] ?_
    try (conv => whnf)
    refine CallW.n (s_runs b a (by omega) h2) ?_
    rintro _ _ ⟨a', bad, xs, rfl, rfl, ha', hxl, hx⟩
    have h7' : ∀ c ∈ cs ++ [xs], c.length ≤ 4096 := fun c hc => by
     rcases List.mem_append.1 hc with hc | hc
     ·exact h7 c hc
     ·simp only [List.mem_singleton] at hc; subst hc; exact hxl
    have h8 : if bad then NoLog b else (Thru b (cs ++ [xs]) a' ∧ ∀ c ∈ cs ++ [xs], ∀ y ∈ c, inM y) := by
     cases hr : getR0 b a with
     | none =>
      rw [hr] at hx
      dsimp only at hx
      rw [hx, if_pos rfl]
      exact thru_none0 h3.1 h25 hr
     | some r =>
      obtain ⟨ys, c⟩ := r
      rw [hr] at hx
      obtain ⟨rfl, rfl, rfl⟩ := hx
      rw [if_neg (by simp)]
      refine ⟨thru_snoc0 h3.1 h25 hr, fun c hc => ?_⟩
      rcases List.mem_append.1 hc with hc | hc
      ·exact h3.2 c hc
      ·simp only [List.mem_singleton] at hc; subst hc; exact (getR0_inv hr).2.2.1
    try (conv => whnf)
    repeat (first
     | (refine Need.mk ?_ ?_; (focus (first | omega | rfl)); conv => whnf)
     | (refine Pick.mk ?_ ?_ ?_; rotate_left; (focus (first | exact map_snoc lsE _ _ | (simp only [List.length_map, List.length_append, List.length_cons, List.length_nil, List.length_replicate, Nat.zero_add]; rfl) | (simp only [chunks]; rfl) | (refine wid ?_ ?_ <;> omega) | (refine SlOf.full ?_; first | (simp; done) | (simp; omega)) | (refine SlF.self _ _ ?_ ?_; (first | rfl | omega | (simp; done) | (simp; omega)); (exact fun _ => rfl)))); conv => whnf)
     | (refine OwnQ.mk false ?_; conv => whnf))
    refine Pick.mk (cs ++ [xs], a', bad) ⟨⟨⟨by simp; omega, ha'⟩, h7', h8⟩, by simp; omega⟩ (LeX.of ?_)
    try (conv => whnf)
    repeat (refine Need.mk ?_ ?_; (focus (first | omega | (simp only [List.length_map, List.length_append, List.length_cons, List.length_nil, List.length_replicate]; omega) | (simp; done))); conv => whnf)
    trivial
  ·have hc25 : cs.length = 25 := by omega
   obtain ⟨y, rest, hy⟩ : ∃ y rest, cs = y :: rest := by
    cases cs with
    | nil => simp at hc25
    | cons y cs => exact ⟨y, cs, rfl⟩
   have hyl := h7 y (by rw [hy]; simp)
   have hz : (cs.map lsE)[addN 0 (Int.toNat 0)]? = some (lsE y) := by rw [hy]; rfl
   cases bad with
   | true =>
    rw [if_pos rfl] at h3
    try (conv => whnf)
    repeat' (first
     | (refine SeqJ.thru ?_; conv => whnf)
     | (refine br_dec (fun _ => ?_) (fun _ => ?_) <;> first | (exfalso; omega) | contradiction | conv => whnf)
     | (refine br_not ?_; conv => whnf)
     | (refine br_bne (fun _ => ?_) (fun _ => ?_) <;> first | (exfalso; omega) | contradiction | conv => whnf)
     | (refine br_beq (fun _ => ?_) (fun _ => ?_) <;> first | (exfalso; omega) | contradiction | conv => whnf))
    refine Hand.mk [] ?_
    try (conv => whnf)
    refine CallW.n (s_textsB (by omega) h2) ?_
    rintro _ _ ⟨d, rfl, rfl, hd⟩
    try (conv => whnf)
    refine Hand.mk [] ?_
    try (conv => whnf)
    refine CallW.n (s_textsB (by omega) hd) ?_
    rintro _ _ ⟨e, rfl, rfl, he⟩
    try (conv => whnf)
    repeat (first
     | (refine Need.mk ?_ ?_; (focus (omega)); conv => whnf)
     | (refine Pick.mk ?_ ?_ ?_; rotate_left; (focus (first | assumption | exact List.length_map _)); conv => whnf))
    refine LoopE.mk (fun j : Nat => mk [(0, vY l), (4, vI .i64 b.length), (5, .one (.ptr 28736 0)), (6, .one (.os (.v 32768) 1 0 cs.length)), (8, .one (.os (.v 53264) 1 0 ([] : List (List UInt8)).length)), (9, .one (.os (.v 57360) 1 0 ([] : List (List UInt8)).length)), (10, vI .i64 y.length), (11, vI .i64 j)] [(28736, rdR b e true), (32768, .own 1 (cs.map lsE)), (53264, .own 1 (([] : List (List UInt8)).map tsD)), (57360, .own 1 (([] : List (List UInt8)).map tsD))]) (fun j => j ≤ 25) (fun j => 25 - j) 0 (by omega) (LeX.of ?_) ?_
    ·try (conv => whnf)
     repeat (refine Need.mk ?_ ?_; (focus (first | omega | (simp; done))); conv => whnf)
     trivial
    intro j hj
    by_cases hj25 : j < 25
    ·have hgl := get_ls cs j (by omega)
     have hcl := h7 (cs[j]'(by omega)) (List.getElem_mem _)
     try (conv => whnf)
     repeat' (first
      | (refine Need.mk ?_ ?_; (focus (omega)); conv => whnf)
      | (refine Pick.mk ?_ ?_ ?_; rotate_left; (focus (first | assumption | exact List.length_map _ | (refine wid ?_ ?_ <;> omega))); conv => whnf)
      | (refine SeqJ.thru ?_; conv => whnf)
      | (refine br_dec (fun _ => ?_) (fun _ => ?_) <;> first | (exfalso; omega) | contradiction | conv => whnf)
      | (refine br_not ?_; conv => whnf)
      | (refine br_bne (fun _ => ?_) (fun _ => ?_) <;> first | (exfalso; omega) | contradiction | conv => whnf)
      | (refine br_beq (fun _ => ?_) (fun _ => ?_) <;> first | (exfalso; omega) | contradiction | conv => whnf))
     all_goals
      refine Pick.mk (j + 1) (by constructor <;> first | omega | (simp only []; omega)) (LeX.of ?_)
      try (conv => whnf)
      repeat (refine Need.mk ?_ ?_; (focus (first | omega | (simp; done))); conv => whnf)
      trivial
    try (conv => whnf)
    repeat' (first
     | (refine Pick.mk ?_ ?_ ?_; rotate_left; (focus ((simp only [chunks]; rfl))); conv => whnf)
     | (refine SeqJ.thru ?_; conv => whnf)
     | (refine br_dec (fun _ => ?_) (fun _ => ?_) <;> first | (exfalso; omega) | contradiction | conv => whnf)
     | (refine br_not ?_; conv => whnf)
     | (refine br_bne (fun _ => ?_) (fun _ => ?_) <;> first | (exfalso; omega) | contradiction | conv => whnf)
     | (refine br_beq (fun _ => ?_) (fun _ => ?_) <;> first | (exfalso; omega) | contradiction | conv => whnf))
    refine Out.mk false [0, 1, 2, 3, 4] [] ?_
    try (conv => whnf)
    exact ⟨⟨[], 3, rl_form hlong h4 hs (hNo h3), rfl, rfl⟩⟩
   | false =>
    rw [if_neg (by simp)] at h3
    try (conv => whnf)
    repeat' (first
     | (refine SeqJ.thru ?_; conv => whnf)
     | (refine br_dec (fun _ => ?_) (fun _ => ?_) <;> first | (exfalso; omega) | contradiction | conv => whnf)
     | (refine br_not ?_; conv => whnf)
     | (refine br_bne (fun _ => ?_) (fun _ => ?_) <;> first | (exfalso; omega) | contradiction | conv => whnf)
     | (refine br_beq (fun _ => ?_) (fun _ => ?_) <;> first | (exfalso; omega) | contradiction | conv => whnf))
    refine Hand.mk [] ?_
    try (conv => whnf)
    refine CallW.n (s_texts b a (by omega) h2) ?_
    rintro _ _ ⟨d, bad, ks, rfl, rfl, hd, hk⟩
    cases hr : getT b a with
    | none =>
     rw [hr] at hk
     dsimp only at hk
     subst hk
     try (conv => whnf)
     refine Hand.mk [] ?_
     try (conv => whnf)
     refine CallW.n (s_textsB (by omega) hd) ?_
     rintro _ _ ⟨e, rfl, rfl, he⟩
     try (conv => whnf)
     repeat (first
      | (refine Need.mk ?_ ?_; (focus (omega)); conv => whnf)
      | (refine Pick.mk ?_ ?_ ?_; rotate_left; (focus (first | assumption | exact List.length_map _)); conv => whnf))
     refine LoopE.mk (fun j : Nat => mk [(0, vY l), (4, vI .i64 b.length), (5, .one (.ptr 28736 0)), (6, .one (.os (.v 32768) 1 0 cs.length)), (8, .one (.os (.v 53264) 1 0 (ks : List (List UInt8)).length)), (9, .one (.os (.v 57360) 1 0 ([] : List (List UInt8)).length)), (10, vI .i64 y.length), (11, vI .i64 j)] [(28736, rdR b e true), (32768, .own 1 (cs.map lsE)), (53264, .own 1 ((ks : List (List UInt8)).map tsD)), (57360, .own 1 (([] : List (List UInt8)).map tsD))]) (fun j => j ≤ 25) (fun j => 25 - j) 0 (by omega) (LeX.of ?_) ?_
     ·try (conv => whnf)
      repeat (refine Need.mk ?_ ?_; (focus (first | omega | (simp; done))); conv => whnf)
      trivial
     intro j hj
     by_cases hj25 : j < 25
     ·have hgl := get_ls cs j (by omega)
      have hcl := h7 (cs[j]'(by omega)) (List.getElem_mem _)
      try (conv => whnf)
      repeat' (first
       | (refine Need.mk ?_ ?_; (focus (omega)); conv => whnf)
       | (refine Pick.mk ?_ ?_ ?_; rotate_left; (focus (first | assumption | exact List.length_map _ | (refine wid ?_ ?_ <;> omega))); conv => whnf)
       | (refine SeqJ.thru ?_; conv => whnf)
       | (refine br_dec (fun _ => ?_) (fun _ => ?_) <;> first | (exfalso; omega) | contradiction | conv => whnf)
       | (refine br_not ?_; conv => whnf)
       | (refine br_bne (fun _ => ?_) (fun _ => ?_) <;> first | (exfalso; omega) | contradiction | conv => whnf)
       | (refine br_beq (fun _ => ?_) (fun _ => ?_) <;> first | (exfalso; omega) | contradiction | conv => whnf))
      all_goals
       refine Pick.mk (j + 1) (by constructor <;> first | omega | (simp only []; omega)) (LeX.of ?_)
       try (conv => whnf)
       repeat (refine Need.mk ?_ ?_; (focus (first | omega | (simp; done))); conv => whnf)
       trivial
     try (conv => whnf)
     repeat' (first
      | (refine Pick.mk ?_ ?_ ?_; rotate_left; (focus ((simp only [chunks]; rfl))); conv => whnf)
      | (refine SeqJ.thru ?_; conv => whnf)
      | (refine br_dec (fun _ => ?_) (fun _ => ?_) <;> first | (exfalso; omega) | contradiction | conv => whnf)
      | (refine br_not ?_; conv => whnf)
      | (refine br_bne (fun _ => ?_) (fun _ => ?_) <;> first | (exfalso; omega) | contradiction | conv => whnf)
      | (refine br_beq (fun _ => ?_) (fun _ => ?_) <;> first | (exfalso; omega) | contradiction | conv => whnf))
     refine Out.mk false [0, 1, 2, 3, 4] [] ?_
     try (conv => whnf)
     exact ⟨⟨[], 3, rl_form hlong h4 hs (hNo (thru_keys_none h3.1 hc25 hr)), rfl, rfl⟩⟩
    | some r =>
     obtain ⟨us, d'⟩ := r
     rw [hr] at hk
     dsimp only at hk
     obtain ⟨rfl, rfl, rfl⟩ := hk
     try (conv => whnf)
     refine Hand.mk [] ?_
     try (conv => whnf)
     refine CallW.n (s_texts b d (by omega) hd) ?_
     rintro _ _ ⟨e, bad, ts, rfl, rfl, he, ht⟩
     cases hr2 : getT b d with
     | none =>
      rw [hr2] at ht
      dsimp only at ht
      subst ht
      try (conv => whnf)
      repeat (first
       | (refine Need.mk ?_ ?_; (focus (omega)); conv => whnf)
       | (refine Pick.mk ?_ ?_ ?_; rotate_left; (focus (first | assumption | exact List.length_map _)); conv => whnf))
      refine LoopE.mk (fun j : Nat => mk [(0, vY l), (4, vI .i64 b.length), (5, .one (.ptr 28736 0)), (6, .one (.os (.v 32768) 1 0 cs.length)), (8, .one (.os (.v 53264) 1 0 (ks : List (List UInt8)).length)), (9, .one (.os (.v 57360) 1 0 (ts : List (List UInt8)).length)), (10, vI .i64 y.length), (11, vI .i64 j)] [(28736, rdR b e true), (32768, .own 1 (cs.map lsE)), (53264, .own 1 ((ks : List (List UInt8)).map tsD)), (57360, .own 1 ((ts : List (List UInt8)).map tsD))]) (fun j => j ≤ 25) (fun j => 25 - j) 0 (by omega) (LeX.of ?_) ?_
      ·try (conv => whnf)
       repeat (refine Need.mk ?_ ?_; (focus (first | omega | (simp; done))); conv => whnf)
       trivial
      intro j hj
      by_cases hj25 : j < 25
      ·have hgl := get_ls cs j (by omega)
       have hcl := h7 (cs[j]'(by omega)) (List.getElem_mem _)
       try (conv => whnf)
       repeat' (first
        | (refine Need.mk ?_ ?_; (focus (omega)); conv => whnf)
        | (refine Pick.mk ?_ ?_ ?_; rotate_left; (focus (first | assumption | exact List.length_map _ | (refine wid ?_ ?_ <;> omega))); conv => whnf)
        | (refine SeqJ.thru ?_; conv => whnf)
        | (refine br_dec (fun _ => ?_) (fun _ => ?_) <;> first | (exfalso; omega) | contradiction | conv => whnf)
        | (refine br_not ?_; conv => whnf)
        | (refine br_bne (fun _ => ?_) (fun _ => ?_) <;> first | (exfalso; omega) | contradiction | conv => whnf)
        | (refine br_beq (fun _ => ?_) (fun _ => ?_) <;> first | (exfalso; omega) | contradiction | conv => whnf))
       all_goals
        refine Pick.mk (j + 1) (by constructor <;> first | omega | (simp only []; omega)) (LeX.of ?_)
        try (conv => whnf)
        repeat (refine Need.mk ?_ ?_; (focus (first | omega | (simp; done))); conv => whnf)
        trivial
      try (conv => whnf)
      repeat' (first
       | (refine Pick.mk ?_ ?_ ?_; rotate_left; (focus ((simp only [chunks]; rfl))); conv => whnf)
       | (refine SeqJ.thru ?_; conv => whnf)
       | (refine br_dec (fun _ => ?_) (fun _ => ?_) <;> first | (exfalso; omega) | contradiction | conv => whnf)
       | (refine br_not ?_; conv => whnf)
       | (refine br_bne (fun _ => ?_) (fun _ => ?_) <;> first | (exfalso; omega) | contradiction | conv => whnf)
       | (refine br_beq (fun _ => ?_) (fun _ => ?_) <;> first | (exfalso; omega) | contradiction | conv => whnf))
      refine Out.mk false [0, 1, 2, 3, 4] [] ?_
      try (conv => whnf)
      exact ⟨⟨[], 3, rl_form hlong h4 hs (hNo (thru_texts_none h3.1 hc25 hr hr2)), rfl, rfl⟩⟩
     | some r =>
      obtain ⟨us, d'⟩ := r
      rw [hr2] at ht
      dsimp only at ht
      obtain ⟨rfl, rfl, rfl⟩ := ht
      have hend := fun L hL hl => thru_end h3.1 hc25 hr hr2 (L := L) hL hl
      obtain ⟨n, hn⟩ : ∃ n, n = y.length := ⟨_, rfl⟩
      have htot := getT_inv hr
      have htot2 := getT_inv hr2
      simp only [MaxB] at htot htot2
      try (conv => whnf)
      repeat (first
       | (refine Need.mk ?_ ?_; (focus (omega)); conv => whnf)
       | (refine Pick.mk ?_ ?_ ?_; rotate_left; (focus (first | assumption | exact List.length_map _)); conv => whnf))
      refine LoopE.mk (fun x : Nat × Bool => mk [(0, vY l), (4, vI .i64 b.length), (5, .one (.ptr 28736 0)), (6, .one (.os (.v 32768) 1 0 cs.length)), (8, .one (.os (.v 53264) 1 0 ks.length)), (9, .one (.os (.v 57360) 1 0 ts.length)), (10, vI .i64 n), (11, vI .i64 x.1)] [(28736, rdR b e x.2), (32768, .own 1 (cs.map lsE)), (53264, .own 1 (ks.map tsD)), (57360, .own 1 (ts.map tsD))])
       (fun x => x.1 ≤ 25 ∧ if x.2 then ∃ c ∈ cs, c.length ≠ n else ∀ i (h : i < cs.length), i < x.1 → cs[i].length = n) (fun x => 25 - x.1) (0, false) ⟨by simp, by simp⟩ (LeX.of ?_) ?_
      ·try (conv => whnf)
       repeat (refine Need.mk ?_ ?_; (focus (first | omega | (simp; done))); conv => whnf)
       trivial
      rintro ⟨j, bad⟩ ⟨hj, hbad⟩
      dsimp only at hj hbad ⊢
      by_cases hj25 : j < 25
      ·have hgl := get_ls cs j (by omega)
       have hcl := h7 (cs[j]'(by omega)) (List.getElem_mem _)
       by_cases hjl : (cs[j]'(by omega)).length = n
       ·try (conv => whnf)
        repeat' (first
         | (refine Need.mk ?_ ?_; (focus (omega)); conv => whnf)
         | (refine Pick.mk ?_ ?_ ?_; rotate_left; (focus (first | assumption | exact List.length_map _ | (refine wid ?_ ?_ <;> omega))); conv => whnf)
         | (refine SeqJ.thru ?_; conv => whnf)
         | (refine br_dec (fun _ => ?_) (fun _ => ?_) <;> first | (exfalso; omega) | contradiction | conv => whnf)
         | (refine br_not ?_; conv => whnf)
         | (refine br_bne (fun _ => ?_) (fun _ => ?_) <;> first | (exfalso; omega) | contradiction | conv => whnf)
         | (refine br_beq (fun _ => ?_) (fun _ => ?_) <;> first | (exfalso; omega) | contradiction | conv => whnf))
        refine Pick.mk (j + 1, bad) ⟨⟨by dsimp only; omega, ?_⟩, by dsimp only; omega⟩ (LeX.of ?_)
        ·cases bad with
         | true => exact hbad
         | false =>
          rw [if_neg (by simp)] at hbad ⊢
          intro i h hi
          rcases Nat.lt_or_ge i j with g | g
          ·exact hbad i h g
          ·obtain rfl : i = j := by dsimp only at hi; omega
           exact hjl
        ·try (conv => whnf)
         repeat (refine Need.mk ?_ ?_; (focus (first | omega | (simp; done))); conv => whnf)
         trivial
       ·try (conv => whnf)
        repeat' (first
         | (refine Need.mk ?_ ?_; (focus (omega)); conv => whnf)
         | (refine Pick.mk ?_ ?_ ?_; rotate_left; (focus (first | assumption | exact List.length_map _ | (refine wid ?_ ?_ <;> omega))); conv => whnf)
         | (refine SeqJ.thru ?_; conv => whnf)
         | (refine br_dec (fun _ => ?_) (fun _ => ?_) <;> first | (exfalso; omega) | contradiction | conv => whnf)
         | (refine br_not ?_; conv => whnf)
         | (refine br_bne (fun _ => ?_) (fun _ => ?_) <;> first | (exfalso; omega) | contradiction | conv => whnf)
         | (refine br_beq (fun _ => ?_) (fun _ => ?_) <;> first | (exfalso; omega) | contradiction | conv => whnf))
        refine Pick.mk (j + 1, true) ⟨⟨by dsimp only; omega, by rw [if_pos rfl]; exact ⟨_, List.getElem_mem _, hjl⟩⟩, by dsimp only; omega⟩ (LeX.of ?_)
        try (conv => whnf)
        repeat (refine Need.mk ?_ ?_; (focus (first | omega | (simp; done))); conv => whnf)
        trivial
      have hno : ¬ (e = b.length ∧ (∀ c ∈ cs, c.length = n) ∧ ks.length = n ∧ ts.length = n ∧ n ≤ 1024) → NoLog b := fun h L hL hl => by
       have k := hend L hL hl
       have k2 := k.2.1 y (by rw [hy]; simp)
       have k3 := k.2.2.1
       have k4 := k.2.2.2.1
       have := hL.len
       exact h ⟨k.1, fun c hc => by rw [k.2.1 c hc]; omega, by omega, by omega, by omega⟩
      cases bad with
      | true =>
       rw [if_pos rfl] at hbad
       obtain ⟨c, hc, hcn⟩ := hbad
       have hno := hno fun h => hcn (h.2.1 c hc)
       try (conv => whnf)
       repeat' (first
        | (refine Pick.mk ?_ ?_ ?_; rotate_left; (focus ((simp only [chunks]; rfl))); conv => whnf)
        | (refine SeqJ.thru ?_; conv => whnf)
        | (refine br_dec (fun _ => ?_) (fun _ => ?_) <;> first | (exfalso; omega) | contradiction | conv => whnf)
        | (refine br_not ?_; conv => whnf)
        | (refine br_bne (fun _ => ?_) (fun _ => ?_) <;> first | (exfalso; omega) | contradiction | conv => whnf)
        | (refine br_beq (fun _ => ?_) (fun _ => ?_) <;> first | (exfalso; omega) | contradiction | conv => whnf))
       refine Out.mk false [0, 1, 2, 3, 4] [] ?_
       try (conv => whnf)
       exact ⟨⟨[], 3, rl_form hlong h4 hs (hNo hno), rfl, rfl⟩⟩
      | false =>
      rw [if_neg (by simp)] at hbad
      have hcn : ∀ c ∈ cs, c.length = n := fun c hc => by
       obtain ⟨i, hi, rfl⟩ := List.mem_iff_getElem.1 hc
       exact hbad i hi (by omega)
      clear hbad
      by_cases hall : e = b.length ∧ ks.length = n ∧ ts.length = n ∧ n ≤ 1024
      rotate_left
      ·have hno2 : ¬ (e = b.length ∧ ks.length = n ∧ ts.length = n ∧ n ≤ 1024) → NoLog b := fun h => hno fun g => h ⟨g.1, g.2.2.1, g.2.2.2.1, g.2.2.2.2⟩
       have hno3 := hno2 hall
       try (conv => whnf)
       repeat' (first
        | (refine Pick.mk ?_ ?_ ?_; rotate_left; (focus ((simp only [chunks]; rfl))); conv => whnf)
        | (refine SeqJ.thru ?_; conv => whnf)
        | (refine br_dec (fun _ => ?_) (fun _ => ?_) <;> first | (exfalso; omega) | contradiction | conv => whnf)
        | (refine br_not ?_; conv => whnf)
        | (refine br_bne (fun _ => ?_) (fun _ => ?_) <;> first | (exfalso; omega) | contradiction | conv => whnf)
        | (refine br_beq (fun _ => ?_) (fun _ => ?_) <;> first | (exfalso; omega) | contradiction | conv => whnf))
       all_goals
        refine Out.mk false [0, 1, 2, 3, 4] [] ?_
        try (conv => whnf)
        exact ⟨⟨[], 3, rl_form hlong h4 hs (hNo hno3), rfl, rfl⟩⟩
      have he2 := hall.1
      have hkl := hall.2.1
      have htl := hall.2.2.1
      have hn2 := hall.2.2.2
      have hco : ColsOk cs n := ⟨hc25, fun c hc => ⟨hcn c hc, h3.2 c hc⟩⟩
      clear hno
      try (conv => whnf)
      repeat' (first
       | (refine Pick.mk ?_ ?_ ?_; rotate_left; (focus ((simp only [chunks]; rfl))); conv => whnf)
       | (refine SeqJ.thru ?_; conv => whnf)
       | (refine br_dec (fun _ => ?_) (fun _ => ?_) <;> first | (exfalso; omega) | contradiction | conv => whnf)
       | (refine br_not ?_; conv => whnf)
       | (refine br_bne (fun _ => ?_) (fun _ => ?_) <;> first | (exfalso; omega) | contradiction | conv => whnf)
       | (refine br_beq (fun _ => ?_) (fun _ => ?_) <;> first | (exfalso; omega) | contradiction | conv => whnf))
      refine LoopE.mk (fun x : Nat × List OpV => mk [(0, vY l), (6, .one (.os (.v 32768) 1 0 cs.length)), (8, .one (.os (.v 53264) 1 0 ks.length)), (9, .one (.os (.v 57360) 1 0 ts.length)), (10, vI .i64 n), (12, .one (.os (.v 94208) 12 0 x.2.length)), (13, vI .i64 x.1)] [(32768, .own 1 (cs.map lsE)), (53264, .own 1 (ks.map tsD)), (57360, .own 1 (ts.map tsD)), (94208, .own 12 (x.2.map oD))])
       (fun x => x.1 ≤ n ∧ x.2.length = x.1 ∧ x.2 = logOf cs ks ts x.1) (fun x => n - x.1) (0, []) ⟨by simp, by simp, by simp [logOf]⟩ (LeX.of ?_) ?_
      ·try (conv => whnf)
       repeat (refine Need.mk ?_ ?_; (focus (first | omega | (simp; done))); conv => whnf)
       trivial
      rintro ⟨i, L⟩ ⟨hi, hLl, hL⟩
      dsimp only at hi hLl hL ⊢
      by_cases hin : i < n
      ·have htt := htot.2.2.2.1
       have htt2 := htot2.2.2.2.1
       refine s_rlRow l cs ks ts L i n hin hn2 hc25 hcn h3.2 hkl htl htt htt2 hLl hL _ (fun S o ho h => ?_)
       exact Pick.mk (i + 1, L ++ [o]) ⟨⟨by dsimp only; omega, by simp; omega, ho.symm⟩, by dsimp only; omega⟩ h
      ·have hin2 : i = n := by omega
       have hpl2 : i = L.length := by omega
       have hw : ∀ o ∈ L, o.key.length ≤ 2 ^ 40 ∧ o.text.length ≤ 2 ^ 40 := fun o ho => by
        rw [hL] at ho
        have := logOf_words ho
        omega
       have hno : (∀ L', LogOk L' → logB0 L' = b → ¬ L' = L) → NoLog b := fun hn L' h1 h2 => by
        have k := hend L' h1 h2
        have := k.2.1 y (by rw [hy]; simp)
        have k5 := k.2.2.2.2
        rw [show L'.length = i by omega, ← hL] at k5
        exact hn L' h1 h2 k5.symm
       have ci := s_LogOK L hw
       by_cases hok : LogOk L
       ·rw [decide_eq_true hok] at ci
        have cb := s_l08Bytes L hok
        have hlb := logB_len hok
        have hl1 : logB L = l → RlA l 0 L := fun h => .inl ⟨rfl, hok, h⟩
        have hl2 : logB L ≠ l → NoLog b := fun h => hno fun L' h1 h2 h3 => h (by
         rw [← h3, logB, h2, hb, hs, List.take_append_drop])
        obtain ⟨C, hC⟩ : ∃ C, C = logB L := ⟨_, rfl⟩
        rw [← hC] at cb hlb hl1 hl2
        clear hC hno hend hr hr2 hco h3 h7 htot htot2 hkl htl hL
        try (conv => whnf)
        repeat' (first
         | (refine SeqJ.thru ?_; conv => whnf)
         | (refine br_dec (fun _ => ?_) (fun _ => ?_) <;> first | (exfalso; omega) | contradiction | conv => whnf)
         | (refine br_not ?_; conv => whnf)
         | (refine br_bne (fun _ => ?_) (fun _ => ?_) <;> first | (exfalso; omega) | contradiction | conv => whnf)
         | (refine br_beq (fun _ => ?_) (fun _ => ?_) <;> first | (exfalso; omega) | contradiction | conv => whnf))
        refine Hand.mk [] ?_
        try (conv => whnf)
        repeat (refine Pick.mk ?_ ?_ ?_; rotate_left; (focus ((refine SlF.self _ _ ?_ ?_; (first | rfl | omega | (simp; done) | (simp; omega)); (exact fun _ => rfl)))); conv => whnf)
        refine CallW.d (ci) ?_
        try (conv => whnf)
        repeat (refine Pick.mk ?_ ?_ ?_; rotate_left; (focus (((fail_if_success (show @Eq (Option _) _ _)); rfl))); conv => whnf)
        try (conv => whnf)
        repeat' (first
         | (refine br_dec (fun _ => ?_) (fun _ => ?_) <;> first | (exfalso; omega) | contradiction | conv => whnf)
         | (refine br_not ?_; conv => whnf)
         | (refine br_bne (fun _ => ?_) (fun _ => ?_) <;> first | (exfalso; omega) | contradiction | conv => whnf)
         | (refine br_beq (fun _ => ?_) (fun _ => ?_) <;> first | (exfalso; omega) | contradiction | conv => whnf))
        refine Hand.mk [] ?_
        try (conv => whnf)
        repeat (refine Pick.mk ?_ ?_ ?_; rotate_left; (focus ((refine SlF.self _ _ ?_ ?_; (first | rfl | omega | (simp; done) | (simp; omega)); (exact fun _ => rfl)))); conv => whnf)
        refine CallW.d (cb) ?_
        try (conv => whnf)
        repeat (first
         | (refine Need.mk ?_ ?_; (focus ((show rechs _ _ _ _; (conv => whnf); (repeat (first | (refine Need.mk ?_ ?_; (focus (first | with_reducible rfl | omega | (simp; done) | rfl)); conv => whnf) | (refine Pick.mk ?_ ?_ ?_; rotate_left; (focus (first | with_reducible exact xor_u8 _ _ | (with_reducible refine xor_i64 ?_ ?_; all_goals omega) | (with_reducible refine xor_u32 ?_ ?_; all_goals omega) | exact map_snoc oD _ _ | exact map_snoc lsE _ _ | (with_reducible refine pick_nat _ _ _ ?_; omega) | exact htk | with_reducible exact pd | with_reducible exact pe | with_reducible exact hzt.out | with_reducible exact p0 | with_reducible exact p1 | with_reducible exact p2 | with_reducible exact p3 | with_reducible exact p4 | with_reducible exact p5 | with_reducible exact p6 | with_reducible exact p7 | with_reducible exact p8 | assumption | with_reducible exact set_byN _ _ _ _ | with_reducible exact set_byI _ _ _ _ | with_reducible exact set_inN _ _ _ _ | with_reducible exact set_inI _ _ _ _ | with_reducible exact set_stN _ _ _ _ | with_reducible exact set_tsN _ _ _ _ | with_reducible exact set_tsI _ _ _ _ | with_reducible exact set_boN _ _ _ _ | with_reducible exact set_boI _ _ _ _ | (with_reducible refine get_mapN _ _ _ ?_; first | omega | (simp; omega)) | (with_reducible refine get_mapI _ _ _ ?_ ?_ <;> first | omega | (simp; omega)) | exact bs_beq _ _ | exact bs_less _ _ | exact bs_leq _ _ | with_reducible exact bs_app _ _ | (refine bs_get _ _ ?_; omega) | (refine bs_int _ _ ?_ ?_ <;> omega) | with_reducible exact sl_map0 _ _ _ | with_reducible exact sl_mapN _ _ _ | with_reducible exact sl_map _ _ _ _ | exact bs_extract0 _ _ | exact bs_extractN _ _ | exact bs_extract _ _ _ | (refine bnd_id ?_; omega) | (refine bnd_sub ?_ ?_ <;> omega) | (refine bnd_add ?_; omega) | (refine bnd_subN ?_ ?_ <;> omega) | (refine bnd_int ?_ ?_ <;> omega) | ((show @Eq Nat (_ + Int.toNat _ * _) _); simp only [Int.toNat_natCast, Nat.zero_add, Nat.mul_one]; rfl) | ((show @Eq (List _) (List.set [_] _ _) _); simp only [List.set_cons_zero]; rfl) | exact List.length_map _ | exact size_bs _ | (simp only [List.length_map, List.length_append, List.length_cons, List.length_nil, List.length_replicate, Nat.zero_add]; rfl) | with_reducible exact List.nil_append _ | with_reducible exact map_app _ _ _ | exact map_snoc byD _ _ | exact map_snoc inD _ _ | exact map_snoc stD _ _ | exact map_snoc tsD _ _ | (simp only [chunks]; rfl) | (refine wid ?_ ?_ <;> omega) | exact wby _ | with_reducible exact wby32 _ | with_reducible exact wu32 _ | exact wby64 _ | exact shr8 _ | exact shr16 _ | exact shr24 _ | exact shr32 _ | (refine tmodn ?_; omega) | (refine wdiv ?_ ?_ ?_ <;> omega) | exact wbyte _ | exact natlit _ | exact rep_by _ | exact rep_in _ | exact rep_bo _ | exact rep_st _ | (refine pick_nat _ _ _ ?_; omega) | (refine pick_int _ _ _ ?_ ?_ <;> omega) | (refine SlOf.full ?_; first | (simp; done) | (simp; omega)) | (with_reducible refine SlOf.pre _ _ ?_; first | omega | (simp; omega)) | (refine SlF.self _ _ ?_ ?_; (first | rfl | omega | (simp; done) | (simp; omega)); (exact fun _ => rfl)) | (refine SlF.pre _ _ ?_ ?_; (first | omega | (simp; omega)); (exact fun _ => rfl)) | (refine SlF.same ?_ ?_; (first | rfl | omega | (simp; done) | (simp; omega)); (first | exact fz_self _ _ (fun _ => rfl) | exact fz_pl rfl | (refine Fz.append ?_ ?_ <;> first | exact fz_self _ _ (fun _ => rfl) | exact fz_pl rfl) | (refine Fz.append (Fz.append ?_ ?_) ?_ <;> first | exact fz_self _ _ (fun _ => rfl) | exact fz_pl rfl))) | (simp only [Int.toNat_natCast, Nat.zero_add, Nat.mul_one]; rfl) | ((show @Eq (Option CV) _ _); rfl) | ((fail_if_success (show @Eq (Option _) _ _)); rfl) | ((show @Eq (Option _) _ _); simp only [List.getElem?_cons_zero, List.getElem?_cons_succ]; done) | ((show @Eq (Option _) _ _); simp only [List.getElem?_cons_zero, List.getElem?_cons_succ]; rfl) | with_reducible rfl)); conv => whnf))); exact Done.mk trivial))); conv => whnf)
         | (refine Pick.mk ?_ ?_ ?_; rotate_left; (focus (first | exact bs_beq _ _ | (refine SlOf.full ?_; first | (simp; done) | (simp; omega)))); conv => whnf))
        by_cases hCl : C = l
        ·have hl1 := hl1 hCl
         try (conv => whnf)
         repeat' (first
          | (refine br_dec (fun _ => ?_) (fun _ => ?_) <;> first | (exfalso; omega) | contradiction | conv => whnf)
          | (refine br_not ?_; conv => whnf)
          | (refine br_bne (fun _ => ?_) (fun _ => ?_) <;> first | (exfalso; omega) | contradiction | conv => whnf)
          | (refine br_beq (fun _ => ?_) (fun _ => ?_) <;> first | (exfalso; omega) | contradiction | conv => whnf))
         refine Out.mk false [0, 1, 2, 3, 4] [] ?_
         try (conv => whnf)
         exact ⟨⟨L, 0, hl1, rfl, rfl⟩⟩
        ·have hl2 := hl2 hCl
         try (conv => whnf)
         repeat' (first
          | (refine Pick.mk ?_ ?_ ?_; rotate_left; (focus ((simp only [chunks]; rfl))); conv => whnf)
          | (refine br_dec (fun _ => ?_) (fun _ => ?_) <;> first | (exfalso; omega) | contradiction | conv => whnf)
          | (refine br_not ?_; conv => whnf)
          | (refine br_bne (fun _ => ?_) (fun _ => ?_) <;> first | (exfalso; omega) | contradiction | conv => whnf)
          | (refine br_beq (fun _ => ?_) (fun _ => ?_) <;> first | (exfalso; omega) | contradiction | conv => whnf))
         refine Out.mk false [0, 1, 2, 3, 4] [] ?_
         try (conv => whnf)
         exact ⟨⟨[], 3, rl_form hlong h4 hs (hNo hl2), rfl, rfl⟩⟩
       ·rw [decide_eq_false hok] at ci
        have hno := hno fun L' h1 _ h3 => hok (h3 ▸ h1)
        clear hend hr hr2 hco h3 h7 htot htot2 hkl htl hL
        try (conv => whnf)
        repeat' (first
         | (refine SeqJ.thru ?_; conv => whnf)
         | (refine br_dec (fun _ => ?_) (fun _ => ?_) <;> first | (exfalso; omega) | contradiction | conv => whnf)
         | (refine br_not ?_; conv => whnf)
         | (refine br_bne (fun _ => ?_) (fun _ => ?_) <;> first | (exfalso; omega) | contradiction | conv => whnf)
         | (refine br_beq (fun _ => ?_) (fun _ => ?_) <;> first | (exfalso; omega) | contradiction | conv => whnf))
        refine Hand.mk [] ?_
        try (conv => whnf)
        repeat (refine Pick.mk ?_ ?_ ?_; rotate_left; (focus ((refine SlF.self _ _ ?_ ?_; (first | rfl | omega | (simp; done) | (simp; omega)); (exact fun _ => rfl)))); conv => whnf)
        refine CallW.d (ci) ?_
        try (conv => whnf)
        repeat (first
         | (refine Need.mk ?_ ?_; (focus ((show rechs _ _ _ _; (conv => whnf); (repeat (first | (refine Need.mk ?_ ?_; (focus (first | with_reducible rfl | omega | (simp; done) | rfl)); conv => whnf) | (refine Pick.mk ?_ ?_ ?_; rotate_left; (focus (first | with_reducible exact xor_u8 _ _ | (with_reducible refine xor_i64 ?_ ?_; all_goals omega) | (with_reducible refine xor_u32 ?_ ?_; all_goals omega) | exact map_snoc oD _ _ | exact map_snoc lsE _ _ | (with_reducible refine pick_nat _ _ _ ?_; omega) | exact htk | with_reducible exact pd | with_reducible exact pe | with_reducible exact hzt.out | with_reducible exact p0 | with_reducible exact p1 | with_reducible exact p2 | with_reducible exact p3 | with_reducible exact p4 | with_reducible exact p5 | with_reducible exact p6 | with_reducible exact p7 | with_reducible exact p8 | assumption | with_reducible exact set_byN _ _ _ _ | with_reducible exact set_byI _ _ _ _ | with_reducible exact set_inN _ _ _ _ | with_reducible exact set_inI _ _ _ _ | with_reducible exact set_stN _ _ _ _ | with_reducible exact set_tsN _ _ _ _ | with_reducible exact set_tsI _ _ _ _ | with_reducible exact set_boN _ _ _ _ | with_reducible exact set_boI _ _ _ _ | (with_reducible refine get_mapN _ _ _ ?_; first | omega | (simp; omega)) | (with_reducible refine get_mapI _ _ _ ?_ ?_ <;> first | omega | (simp; omega)) | exact bs_beq _ _ | exact bs_less _ _ | exact bs_leq _ _ | with_reducible exact bs_app _ _ | (refine bs_get _ _ ?_; omega) | (refine bs_int _ _ ?_ ?_ <;> omega) | with_reducible exact sl_map0 _ _ _ | with_reducible exact sl_mapN _ _ _ | with_reducible exact sl_map _ _ _ _ | exact bs_extract0 _ _ | exact bs_extractN _ _ | exact bs_extract _ _ _ | (refine bnd_id ?_; omega) | (refine bnd_sub ?_ ?_ <;> omega) | (refine bnd_add ?_; omega) | (refine bnd_subN ?_ ?_ <;> omega) | (refine bnd_int ?_ ?_ <;> omega) | ((show @Eq Nat (_ + Int.toNat _ * _) _); simp only [Int.toNat_natCast, Nat.zero_add, Nat.mul_one]; rfl) | ((show @Eq (List _) (List.set [_] _ _) _); simp only [List.set_cons_zero]; rfl) | exact List.length_map _ | exact size_bs _ | (simp only [List.length_map, List.length_append, List.length_cons, List.length_nil, List.length_replicate, Nat.zero_add]; rfl) | with_reducible exact List.nil_append _ | with_reducible exact map_app _ _ _ | exact map_snoc byD _ _ | exact map_snoc inD _ _ | exact map_snoc stD _ _ | exact map_snoc tsD _ _ | (simp only [chunks]; rfl) | (refine wid ?_ ?_ <;> omega) | exact wby _ | with_reducible exact wby32 _ | with_reducible exact wu32 _ | exact wby64 _ | exact shr8 _ | exact shr16 _ | exact shr24 _ | exact shr32 _ | (refine tmodn ?_; omega) | (refine wdiv ?_ ?_ ?_ <;> omega) | exact wbyte _ | exact natlit _ | exact rep_by _ | exact rep_in _ | exact rep_bo _ | exact rep_st _ | (refine pick_nat _ _ _ ?_; omega) | (refine pick_int _ _ _ ?_ ?_ <;> omega) | (refine SlOf.full ?_; first | (simp; done) | (simp; omega)) | (with_reducible refine SlOf.pre _ _ ?_; first | omega | (simp; omega)) | (refine SlF.self _ _ ?_ ?_; (first | rfl | omega | (simp; done) | (simp; omega)); (exact fun _ => rfl)) | (refine SlF.pre _ _ ?_ ?_; (first | omega | (simp; omega)); (exact fun _ => rfl)) | (refine SlF.same ?_ ?_; (first | rfl | omega | (simp; done) | (simp; omega)); (first | exact fz_self _ _ (fun _ => rfl) | exact fz_pl rfl | (refine Fz.append ?_ ?_ <;> first | exact fz_self _ _ (fun _ => rfl) | exact fz_pl rfl) | (refine Fz.append (Fz.append ?_ ?_) ?_ <;> first | exact fz_self _ _ (fun _ => rfl) | exact fz_pl rfl))) | (simp only [Int.toNat_natCast, Nat.zero_add, Nat.mul_one]; rfl) | ((show @Eq (Option CV) _ _); rfl) | ((fail_if_success (show @Eq (Option _) _ _)); rfl) | ((show @Eq (Option _) _ _); simp only [List.getElem?_cons_zero, List.getElem?_cons_succ]; done) | ((show @Eq (Option _) _ _); simp only [List.getElem?_cons_zero, List.getElem?_cons_succ]; rfl) | with_reducible rfl)); conv => whnf))); exact Done.mk trivial))); conv => whnf)
         | (refine Pick.mk ?_ ?_ ?_; rotate_left; (focus ((simp only [chunks]; rfl))); conv => whnf))
        try (conv => whnf)
        repeat' (first
         | (refine br_dec (fun _ => ?_) (fun _ => ?_) <;> first | (exfalso; omega) | contradiction | conv => whnf)
         | (refine br_not ?_; conv => whnf)
         | (refine br_bne (fun _ => ?_) (fun _ => ?_) <;> first | (exfalso; omega) | contradiction | conv => whnf)
         | (refine br_beq (fun _ => ?_) (fun _ => ?_) <;> first | (exfalso; omega) | contradiction | conv => whnf))
        refine Out.mk false [0, 1, 2, 3, 4] [] ?_
        try (conv => whnf)
        exact ⟨⟨[], 3, rl_form hlong h4 hs (hNo hno), rfl, rfl⟩⟩
end Go.Proofs.Ytpdjehnlejjfmaa.D
/- What the laws do with texts: compared, marked. -/
namespace Go.Proofs.Ytpdjehnlejjfmaa.D
open Go.RowKit
set_option maxRecDepth 100000
set_option maxHeartbeats 4000000
set_option linter.unusedVariables false
set_option linter.unusedSimpArgs false

def digs (k : Nat) (acc : List UInt8) : List UInt8 := if k = 0 then acc else digs (k / 10) (u8 ((48 + k % 10 : Nat) : Int) :: acc)
termination_by k
decreasing_by omega
def markT (k : Int) : List UInt8 := 109 :: digs k.toNat []
theorem l_markText (k : Int) (h0 : 0 < k) (h1 : k ≤ 2 ^ 60) : CallD Try.prog id_laws_markText [vI .i64 k] [] (vS (bs (markT k))) [] := by
 refine F_laws_markText ?_
 obtain ⟨k, rfl⟩ : ∃ n : Nat, k = n := ⟨k.toNat, by omega⟩
 try (conv => whnf)
 repeat' (first
  | (refine SeqJ.thru ?_; conv => whnf)
  | (refine br_dec (fun _ => ?_) (fun _ => ?_) <;> first | (exfalso; omega) | contradiction | conv => whnf)
  | (refine br_not ?_; conv => whnf)
  | (refine br_bne (fun _ => ?_) (fun _ => ?_) <;> first | (exfalso; omega) | contradiction | conv => whnf)
  | (refine br_beq (fun _ => ?_) (fun _ => ?_) <;> first | (exfalso; omega) | contradiction | conv => whnf))
 refine LoopE.mk (fun (x : Nat × List UInt8) => mk [(0, vI .i64 x.1), (3, vS (bs x.2))] []) (fun x => x.1 + x.2.length ≤ k ∧ digs x.1 x.2 = digs k []) (fun x => x.1) (k, []) ⟨by simp, rfl⟩ (LeX.of ?_) ?_
 ·try (conv => whnf)
  repeat (refine Need.mk ?_ ?_; (focus (first | omega | (simp; done))); conv => whnf)
  trivial
 ·rintro ⟨n, out⟩ ⟨h2, h3⟩
  dsimp only at h2 h3 ⊢
  try (conv => whnf)
  repeat' (first
   | (refine Need.mk ?_ ?_; (focus (first | omega | (simp; omega))); conv => whnf)
   | (refine Pick.mk ?_ ?_ ?_; rotate_left; (focus (first | with_reducible exact bs_app _ _ | (simp only [chunks]; rfl) | (refine wid ?_ ?_ <;> omega) | (refine tmodn ?_; omega) | exact wbyte _)); conv => whnf)
   | (refine SeqJ.thru ?_; conv => whnf)
   | (refine br_dec (fun _ => ?_) (fun _ => ?_) <;> first | (exfalso; omega) | contradiction | conv => whnf)
   | (refine br_not ?_; conv => whnf)
   | (refine br_bne (fun _ => ?_) (fun _ => ?_) <;> first | (exfalso; omega) | contradiction | conv => whnf)
   | (refine br_beq (fun _ => ?_) (fun _ => ?_) <;> first | (exfalso; omega) | contradiction | conv => whnf))
  ·refine Pick.mk [u8 ((48 + n % 10 : Nat) : Int)] ⟨by simp, by simp⟩ ?_
   try (conv => whnf)
   repeat (first
    | (refine Need.mk ?_ ?_; (focus (first | omega | (simp; omega))); conv => whnf)
    | (refine Pick.mk ?_ ?_ ?_; rotate_left; (focus (first | with_reducible exact bs_app _ _ | (refine wdiv ?_ ?_ ?_ <;> omega))); conv => whnf))
   refine Pick.mk (n / 10, u8 ((48 + n % 10 : Nat) : Int) :: out) ⟨⟨by simp; omega, ?_⟩, by dsimp only; omega⟩ (LeX.of ?_)
   ·dsimp only
    rw [← h3]
    conv => rhs; rw [digs, if_neg (by omega)]
   ·try (conv => whnf)
    repeat (refine Need.mk ?_ ?_; (focus (first | omega | (simp; done))); conv => whnf)
    trivial
  ·refine Out.mk true [] [] ?_
   try (conv => whnf)
   have : n = 0 := by omega
   subst this
   rw [digs, if_pos rfl] at h3
   rw [markT, Int.toNat_natCast, ← h3]
   exact ⟨rfl, rfl⟩
def markTs (k : Int) (n : Nat) : List (List UInt8) := (List.range n).map fun (i : Nat) => markT (k + i)
@[simp] theorem markTs_length (k : Int) (n : Nat) : (markTs k n).length = n := by simp [markTs]
end Go.Proofs.Ytpdjehnlejjfmaa.D
/- States of several entries: in order, or not. -/
namespace Go.Proofs.Ytpdjehnlejjfmaa.D
open Go.RowKit
set_option maxRecDepth 100000
set_option maxHeartbeats 4000000
set_option linter.unusedVariables false
set_option linter.unusedSimpArgs false

structure EntV where
 t : Int
 a : Int
 x : List UInt8
def gd (s : List Int) (l : List EntV) (j : Nat) (h : j < l.length) : Prop :=
 stOk l[j].t l[j].a ∧ l[j].x.length ≤ 200 ∧ l[j].t ≤ s.getD l[j].a.toNat 0 ∧ (0 < j → stLt (l[j - 1]'(by omega)).t (l[j - 1]'(by omega)).a l[j].t l[j].a)
def StOk (s : List Int) (l : List EntV) : Prop := VecOk s ∧ l.length ≤ 256 ∧ ∀ j (h : j < l.length), gd s l j h
noncomputable instance (s : List Int) (l : List EntV) : Decidable (StOk s l) := Classical.propDecidable _
end Go.Proofs.Ytpdjehnlejjfmaa.D
/- What the laws do with entries: copied, compared, marked. -/
namespace Go.Proofs.Ytpdjehnlejjfmaa.D
open Go.RowKit
set_option maxRecDepth 100000
set_option maxHeartbeats 4000000
set_option linter.unusedVariables false
set_option linter.unusedSimpArgs false

def markEs (k : Int) (n : Nat) : List EntV := (List.range n).map fun (i : Nat) => ⟨k + 3 * i, k + 3 * i + 1, markT (k + 3 * i + 1 + 1)⟩
@[simp] theorem markEs_length (k : Int) (n : Nat) : (markEs k n).length = n := by simp [markEs]
theorem l_heldIntS (n : Nat) (k : Int) (ha : n ≤ 2 ^ 39) (h0 : 0 ≤ k) (h1 : k ≤ 2 ^ 60) :
  CallD Try.prog id_laws_heldIntS [vN (markIs k n), vI .i64 k] [] (vI .i64 (k + n)) [] := by
 refine F_laws_heldIntS ?_
 have hm : (markIs k n).length = n := by simp
 try (conv => whnf)
 refine LoopE.mk (fun i : Nat => mk [(0, vN (markIs k n)), (1, vI .i64 (k + i)), (5, vI .i64 i)] []) (fun i => i ≤ n) (fun i => n - i) 0 (by omega) (LeX.of ?_) ?_
 ·try (conv => whnf)
  repeat (refine Need.mk ?_ ?_; (focus (first | omega | (simp; done))); conv => whnf)
  trivial
 ·intro i hi
  try (conv => whnf)
  repeat' (first
   | (refine Pick.mk ?_ ?_ ?_; rotate_left; (focus (first | exact List.length_map _ | (refine wid ?_ ?_ <;> omega) | (refine pick_nat _ _ _ ?_; omega))); conv => whnf)
   | (refine SeqJ.thru ?_; conv => whnf)
   | (refine br_dec (fun _ => ?_) (fun _ => ?_) <;> first | (exfalso; omega) | contradiction | conv => whnf)
   | (refine br_not ?_; conv => whnf)
   | (refine br_bne (fun _ => ?_) (fun _ => ?_) <;> first | (exfalso; omega) | contradiction | conv => whnf)
   | (refine br_beq (fun _ => ?_) (fun _ => ?_) <;> first | (exfalso; omega) | contradiction | conv => whnf))
  ·refine Pick.mk (i + 1) (by constructor <;> first | omega | (simp only []; omega)) (LeX.of ?_)
   try (conv => whnf)
   repeat (refine Need.mk ?_ ?_; (focus (first | omega | (simp; done))); conv => whnf)
   trivial
  ·rename_i g1 g2
   exfalso
   rw [markIs_get k (by omega)] at g2
   simp at g2
  ·refine Out.mk true [] [] ?_
   try (conv => whnf)
   exact ⟨by congr; omega, rfl⟩
end Go.Proofs.Ytpdjehnlejjfmaa.D
/- The marks that a law makes in operations whose vectors are the ends of longer rows, and what they hold. -/
namespace Go.Proofs.Ytpdjehnlejjfmaa.D
open Go.RowKit
set_option maxRecDepth 100000
set_option maxHeartbeats 4000000
set_option linter.unusedVariables false
set_option linter.unusedSimpArgs false

theorem l_markIntSo (pre a : List Int) (n : Nat) (hn : a.length = n) (k : Int) (hp : pre.length ≤ 2 ^ 39) (ha : a.length ≤ 2 ^ 39) (h0 : 0 ≤ k) (h1 : k ≤ 2 ^ 60) :
  CallMD Try.prog id_laws_markIntS [.one (.os (.v 0) 1 pre.length a.length), vI .i64 k] [.own 1 ((pre ++ a).map inD)] [] (vI .i64 (k + n)) [.own 1 ((pre ++ markIs k n).map inD)] := by
 subst hn
 refine F_laws_markIntS ?_
 try (conv => whnf)
 refine LoopE.mk (fun i : Nat => mk [(0, .one (.os (.v 0) 1 pre.length a.length)), (1, vI .i64 (k + i)), (5, vI .i64 i)] [(0, .own 1 ((pre ++ over (markIs k a.length) a i).map inD))]) (fun i => i ≤ a.length) (fun i => a.length - i) 0 (by omega) (LeX.of ?_) ?_
 ·try (conv => whnf)
  repeat (refine Need.mk ?_ ?_; (focus (first | omega | rfl)); conv => whnf)
  trivial
 ·intro i hi
  try (conv => whnf)
  repeat' (first
   | (refine Need.mk ?_ ?_; (focus (omega)); conv => whnf)
   | (refine SeqJ.thru ?_; conv => whnf)
   | (refine br_dec (fun _ => ?_) (fun _ => ?_) <;> first | (exfalso; omega) | contradiction | conv => whnf)
   | (refine br_not ?_; conv => whnf)
   | (refine br_bne (fun _ => ?_) (fun _ => ?_) <;> first | (exfalso; omega) | contradiction | conv => whnf)
   | (refine br_beq (fun _ => ?_) (fun _ => ?_) <;> first | (exfalso; omega) | contradiction | conv => whnf))
  ·refine Pick.mk (inD (a[i]'(by omega))) (by rw [addN_eq, List.getElem?_map, show pre.length + (i : Int).toNat = pre.length + i by omega, List.getElem?_append_right (by omega), show pre.length + i - pre.length = i by omega, over_get (by simp) (by omega)]; simp) ?_
   try (conv => whnf)
   repeat (first
    | (refine Need.mk ?_ ?_; (focus ((simp only [List.length_map, List.length_append, List.length_cons, List.length_nil, List.length_replicate]; omega))); conv => whnf)
    | (refine Pick.mk ?_ ?_ ?_; rotate_left; (focus (first | (refine wid ?_ ?_ <;> omega) | (simp only [Int.toNat_natCast, Nat.zero_add, Nat.mul_one]; rfl))); conv => whnf))
   refine Pick.mk (i + 1) (by constructor <;> first | omega | (simp only []; omega)) (LeX.of ?_)
   try (conv => whnf)
   repeat (refine Need.mk ?_ ?_; (focus (omega)); conv => whnf)
   refine Need.mk (by rw [addN_eq, ← over_set (by simp) (by omega), markIs_get _ (by omega)]; show (List.map inD (pre ++ over (markIs k a.length) a i)).set (pre.length + i) (inD (k + i)) = _; rw [← List.map_set, List.set_append_right _ _ (by omega), show pre.length + i - pre.length = i by omega]) ?_
   try (conv => whnf)
   trivial
  ·refine Out.mk false [0, 1, 2, 3, 4] [] ?_
   try (conv => whnf)
   repeat (refine Need.mk ?_ ?_; (focus ((first | exact flat_by _ | exact flat_in _ | exact flat_st _ | exact flat_ts _ | exact flat_bo _ | exact flat_cl rfl))); conv => whnf)
   rw [over_end (by simp) (by omega)]
   exact ⟨by congr; omega, rfl⟩
def markO (q : Int) : OpV := ⟨q, q + 1, q + 1 + 1, markIs (q + 1 + 1 + 1) 16, q + 1 + 1 + 1 + ((16 : Nat) : Int), q + 1 + 1 + 1 + ((16 : Nat) : Int) + 1, q + 1 + 1 + 1 + ((16 : Nat) : Int) + 1 + 1, q + 1 + 1 + 1 + ((16 : Nat) : Int) + 1 + 1 + 1, q + 1 + 1 + 1 + ((16 : Nat) : Int) + 1 + 1 + 1 + 1, q + 1 + 1 + 1 + ((16 : Nat) : Int) + 1 + 1 + 1 + 1 + 1, markT (q + 1 + 1 + 1 + ((16 : Nat) : Int) + 1 + 1 + 1 + 1 + 1 + 1), markT (q + 1 + 1 + 1 + ((16 : Nat) : Int) + 1 + 1 + 1 + 1 + 1 + 1 + 1)⟩
def markL (k : Int) (n : Nat) : List OpV := (List.range n).map fun (i : Nat) => markO (k + 27 * i)
@[simp] theorem markL_length (k : Int) (n : Nat) : (markL k n).length = n := by simp [markL]
theorem markL_get (k : Int) {n i : Nat} (h : i < n) : (markL k n)[i]'(by simpa using h) = markO (k + 27 * i) := by simp [markL]
theorem markL_succ (k : Int) (i : Nat) : markL k (i + 1) = markL k i ++ [markO (k + 27 * i)] := by simp [markL, List.range_succ]
theorem take_set {α : Type} (l : List α) (i : Nat) (x : α) (h : i < l.length) : (l.set i x).take (i + 1) = l.take i ++ [x] := by
 rw [List.take_succ_eq_append_getElem (by simpa using h), List.getElem_set_self, List.take_set_of_le (Nat.le_refl _)]
theorem get_oP (m : List (List Int × OpV)) (i : Nat) (h : i < m.length) : (m.map oP)[addN 0 (i : Int).toNat]? = some (oP m[i]) := by
 rw [addN_eq, List.getElem?_map, show 0 + (i : Int).toNat = i by omega, List.getElem?_eq_getElem h]; rfl
theorem l_markOpP (l : List (List Int × OpV)) (k : Int) (hl : l.length ≤ 2 ^ 20) (hd : ∀ p ∈ l, goodP p) (h0 : 0 < k) (h1 : k ≤ 2 ^ 40) :
  CallM Try.prog id_laws_markOpS [.one (.os (.v 0) 12 0 l.length), vI .i64 k] [.own 12 (l.map oP)] [] true fun r Lo => ∃ m : List (List Int × OpV), m.map (·.2) = markL k l.length ∧ r = vI .i64 (k + 27 * l.length) ∧ Lo = [.own 12 (m.map oP)] := by
 refine F_laws_markOpS ?_
 try (conv => whnf)
 refine LoopE.mk (fun x : Nat × List (List Int × OpV) => mk [(0, .one (.os (.v 0) 12 0 l.length)), (1, vI .i64 (k + 27 * x.1)), (5, vI .i64 x.1)] [(0, .own 12 (x.2.map oP))])
  (fun x => x.1 ≤ l.length ∧ x.2.length = l.length ∧ (∀ p ∈ x.2, goodP p) ∧ (x.2.map (·.2)).take x.1 = markL k x.1) (fun x => l.length - x.1) (0, l) ⟨by omega, rfl, hd, rfl⟩ (LeX.of ?_) ?_
 ·try (conv => whnf)
  repeat (refine Need.mk ?_ ?_; (focus (first | omega | (simp; done))); conv => whnf)
  trivial
 ·rintro ⟨i, m⟩ ⟨hi, hm, hg, hk⟩
  simp only at hi hm hg hk ⊢
  by_cases hlt : i < l.length
  ·have hgo := hg (m[i]'(by omega)) (List.getElem_mem _)
   have g0 := get_oP m i (by omega)
   generalize ho : (m[i]'(by omega)) = o at hgo g0
   obtain ⟨pre, o⟩ := o
   obtain ⟨hp, hd16⟩ := hgo
   dsimp only at hp hd16
   have ha : addN 0 (i : Int).toNat < (m.map oP).length := by rw [addN_eq]; simp; omega
   try (conv => whnf)
   repeat' (first
    | (refine Need.mk ?_ ?_; (focus (first | omega | (simp only [List.length_map, List.length_append, List.length_cons, List.length_nil, List.length_replicate]; omega))); conv => whnf)
    | (refine Pick.mk ?_ ?_ ?_; rotate_left; (focus (first | exact List.set_set .. | (refine List.getElem?_set_self ?_; assumption) | assumption | (simp only [List.length_map, List.length_append, List.length_cons, List.length_nil, List.length_replicate, Nat.zero_add]; rfl) | (refine wid ?_ ?_ <;> omega))); conv => whnf)
    | (refine SeqJ.thru ?_; conv => whnf)
    | (refine br_dec (fun _ => ?_) (fun _ => ?_) <;> first | (exfalso; omega) | contradiction | conv => whnf)
    | (refine br_not ?_; conv => whnf)
    | (refine br_bne (fun _ => ?_) (fun _ => ?_) <;> first | (exfalso; omega) | contradiction | conv => whnf)
    | (refine br_beq (fun _ => ?_) (fun _ => ?_) <;> first | (exfalso; omega) | contradiction | conv => whnf))
   refine Hand.mk [0] ?_
   try (conv => whnf)
   repeat (first
    | (refine Need.mk ?_ ?_; (focus (omega)); conv => whnf)
    | (refine Pick.mk ?_ ?_ ?_; rotate_left; (focus ((refine List.getElem?_set_self ?_; assumption))); conv => whnf))
   refine CallW.m (l_markIntSo pre o.deps 16 hd16 (k + 27 * i + 1 + 1 + 1) (by omega) (by omega) (by omega) (by omega)) ?_
   try (conv => whnf)
   repeat (refine Pick.mk ?_ ?_ ?_; rotate_left; (focus ((refine List.getElem?_set_self ?_; assumption))); conv => whnf)
   refine Need.mk ⟨by simp [hd16], fz_self _ _ (fun _ => rfl), fun h => by exfalso; have := congrArg List.length h; simp [hp, hd16] at this⟩ ?_
   try (conv => whnf)
   repeat (first
    | (refine Need.mk ?_ ?_; (focus (first | omega | (simp only [List.length_map, List.length_append, List.length_cons, List.length_nil, List.length_replicate]; omega))); conv => whnf)
    | (refine Pick.mk ?_ ?_ ?_; rotate_left; (focus (first | exact List.set_set .. | (refine List.getElem?_set_self ?_; assumption) | (refine wid ?_ ?_ <;> omega))); conv => whnf))
   refine Hand.mk [] ?_
   try (conv => whnf)
   refine CallW.d (l_markText _ (by omega) (by omega)) ?_
   try (conv => whnf)
   repeat (first
    | (refine Need.mk ?_ ?_; (focus (first | omega | (simp only [List.length_map, List.length_append, List.length_cons, List.length_nil, List.length_replicate]; omega))); conv => whnf)
    | (refine Pick.mk ?_ ?_ ?_; rotate_left; (focus (first | exact List.set_set .. | (refine List.getElem?_set_self ?_; assumption) | (refine wid ?_ ?_ <;> omega))); conv => whnf))
   refine Hand.mk [] ?_
   try (conv => whnf)
   refine CallW.d (l_markText _ (by omega) (by omega)) ?_
   try (conv => whnf)
   repeat (first
    | (refine Need.mk ?_ ?_; (focus (first | omega | (simp only [List.length_map, List.length_append, List.length_cons, List.length_nil, List.length_replicate]; omega))); conv => whnf)
    | (refine Pick.mk ?_ ?_ ?_; rotate_left; (focus (first | exact List.set_set .. | (refine List.getElem?_set_self ?_; assumption) | (refine wid ?_ ?_ <;> omega))); conv => whnf))
   refine Pick.mk (i + 1, m.set i (pre, markO (k + 27 * i))) ⟨⟨by omega, by simpa using hm, ?_, ?_⟩, by simp only; omega⟩ (LeX.of ?_)
   ·intro p hp'
    rcases List.mem_or_eq_of_mem_set hp' with hx | rfl
    ·exact hg p hx
    ·exact ⟨hp, by simp [markO]⟩
   ·dsimp only
    rw [List.map_set, markL_succ, ← hk]
    exact take_set _ _ _ (by simp; omega)
   conv => whnf
   refine Need.mk ⟨rfl, rfl⟩ ?_
   conv => whnf
   refine Need.mk (by omega) ?_
   conv => whnf
   refine Need.mk (by omega) ?_
   conv => whnf
   refine Need.mk (by rw [addN_eq, show 0 + (i : Int).toNat = i by omega, List.map_set]; exact congrArg _ (by simp only [oP, markO, splice, markIs_length, List.take_succ_cons, List.take_zero, List.drop_succ_cons, List.drop_zero, List.cons_append, List.nil_append, List.length_cons, List.length_nil, List.take_nil, List.drop_nil, Nat.zero_add, Nat.reduceAdd, List.set_cons_succ, List.set_cons_zero, hd16])) ?_
   conv => whnf
   trivial
  ·try (conv => whnf)
   repeat' (first
    | (refine SeqJ.thru ?_; conv => whnf)
    | (refine br_dec (fun _ => ?_) (fun _ => ?_) <;> first | (exfalso; omega) | contradiction | conv => whnf)
    | (refine br_not ?_; conv => whnf)
    | (refine br_bne (fun _ => ?_) (fun _ => ?_) <;> first | (exfalso; omega) | contradiction | conv => whnf)
    | (refine br_beq (fun _ => ?_) (fun _ => ?_) <;> first | (exfalso; omega) | contradiction | conv => whnf))
   refine Out.mk false [0, 1, 2, 3, 4] [] ?_
   try (conv => whnf)
   repeat (refine Need.mk ?_ ?_; (focus (exact flat_oP _)); conv => whnf)
   have : i = l.length := by omega
   subst this
   refine ⟨m, ?_, rfl, rfl⟩
   rw [← hk, List.take_of_length_le (by simp; omega)]
theorem l_heldOpS (n : Nat) (k : Int) (hn : n ≤ 2 ^ 20) (h0 : 0 < k) (h1 : k ≤ 2 ^ 40) :
  CallD Try.prog id_laws_heldOpS [vL (markL k n), vI .i64 k] [] (vI .i64 (k + 27 * n)) [] := by
 refine F_laws_heldOpS ?_
 have hm : (markL k n).length = n := by simp
 try (conv => whnf)
 refine LoopE.mk (fun i : Nat => mk [(0, vL (markL k n)), (1, vI .i64 (k + 27 * i)), (5, vI .i64 i)] []) (fun i => i ≤ n) (fun i => n - i) 0 (by omega) (LeX.of ?_) ?_
 ·try (conv => whnf)
  repeat (refine Need.mk ?_ ?_; (focus (first | omega | (simp; done))); conv => whnf)
  trivial
 ·intro i hi
  by_cases hlt : i < n
  ·have f := markL_get k hlt
   have f0 : ((markL k n)[i]'(by omega)).actor = k + 27 * i := by rw [f]; rfl
   have f1 : ((markL k n)[i]'(by omega)).seq = k + 27 * i + 1 := by rw [f]; rfl
   have f2 : ((markL k n)[i]'(by omega)).time = k + 27 * i + 1 + 1 := by rw [f]; rfl
   have f3 : ((markL k n)[i]'(by omega)).deps = markIs (k + 27 * i + 1 + 1 + 1) 16 := by rw [f]; rfl
   have f4 : ((markL k n)[i]'(by omega)).kind = k + 27 * i + 1 + 1 + 1 + ((16 : Nat) : Int) := by rw [f]; rfl
   have f5 : ((markL k n)[i]'(by omega)).obj = k + 27 * i + 1 + 1 + 1 + ((16 : Nat) : Int) + 1 := by rw [f]; rfl
   have f6 : ((markL k n)[i]'(by omega)).n = k + 27 * i + 1 + 1 + 1 + ((16 : Nat) : Int) + 1 + 1 := by rw [f]; rfl
   have f7 : ((markL k n)[i]'(by omega)).undo = k + 27 * i + 1 + 1 + 1 + ((16 : Nat) : Int) + 1 + 1 + 1 := by rw [f]; rfl
   have f8 : ((markL k n)[i]'(by omega)).atT = k + 27 * i + 1 + 1 + 1 + ((16 : Nat) : Int) + 1 + 1 + 1 + 1 := by rw [f]; rfl
   have f9 : ((markL k n)[i]'(by omega)).atA = k + 27 * i + 1 + 1 + 1 + ((16 : Nat) : Int) + 1 + 1 + 1 + 1 + 1 := by rw [f]; rfl
   have f10 : ((markL k n)[i]'(by omega)).key = markT (k + 27 * i + 1 + 1 + 1 + ((16 : Nat) : Int) + 1 + 1 + 1 + 1 + 1 + 1) := by rw [f]; rfl
   have f11 : ((markL k n)[i]'(by omega)).text = markT (k + 27 * i + 1 + 1 + 1 + ((16 : Nat) : Int) + 1 + 1 + 1 + 1 + 1 + 1 + 1) := by rw [f]; rfl
   have c := l_heldIntS 16 (k + 27 * i + 1 + 1 + 1) (by omega) (by omega) (by omega)
   rw [← f3] at c
   clear f
   try (conv => whnf)
   repeat' (first
    | (refine Pick.mk ?_ ?_ ?_; rotate_left; (focus (first | exact List.length_map _ | (refine wid ?_ ?_ <;> omega) | (refine pick_nat _ _ _ ?_; omega))); conv => whnf)
    | (refine SeqJ.thru ?_; conv => whnf)
    | (refine br_dec (fun _ => ?_) (fun _ => ?_) <;> first | (exfalso; omega) | contradiction | conv => whnf)
    | (refine br_not ?_; conv => whnf)
    | (refine br_bne (fun _ => ?_) (fun _ => ?_) <;> first | (exfalso; omega) | contradiction | conv => whnf)
    | (refine br_beq (fun _ => ?_) (fun _ => ?_) <;> first | (exfalso; omega) | contradiction | conv => whnf))
   refine Hand.mk [] ?_
   try (conv => whnf)
   refine CallW.d (c) ?_
   try (conv => whnf)
   repeat (refine SeqJ.thru ?_; conv => whnf)
   try (conv => whnf)
   repeat' (first
    | (refine Pick.mk ?_ ?_ ?_; rotate_left; (focus (first | (refine wid ?_ ?_ <;> omega) | (refine pick_nat _ _ _ ?_; omega))); conv => whnf)
    | (refine SeqJ.thru ?_; conv => whnf)
    | (refine br_dec (fun _ => ?_) (fun _ => ?_) <;> first | (exfalso; omega) | contradiction | conv => whnf)
    | (refine br_not ?_; conv => whnf)
    | (refine br_bne (fun _ => ?_) (fun _ => ?_) <;> first | (exfalso; omega) | contradiction | conv => whnf)
    | (refine br_beq (fun _ => ?_) (fun _ => ?_) <;> first | (exfalso; omega) | contradiction | conv => whnf))
   refine Hand.mk [] ?_
   try (conv => whnf)
   refine CallW.d (l_markText _ (by omega) (by omega)) ?_
   try (conv => whnf)
   repeat (first
    | (refine Need.mk ?_ ?_; (focus (((conv => whnf); (repeat (first | (refine Need.mk (by first | rfl | omega | (simp; done)) ?_; conv => whnf) | (refine Pick.mk ?_ ?_ ?_; rotate_left; (focus (first | with_reducible exact xor_u8 _ _ | (with_reducible refine xor_i64 ?_ ?_; all_goals omega) | (with_reducible refine xor_u32 ?_ ?_; all_goals omega) | exact List.set_set .. | (refine List.getElem?_set_self ?_; assumption) | assumption | with_reducible exact set_byN _ _ _ _ | with_reducible exact set_byI _ _ _ _ | with_reducible exact set_inN _ _ _ _ | with_reducible exact set_inI _ _ _ _ | with_reducible exact set_stN _ _ _ _ | with_reducible exact set_tsN _ _ _ _ | with_reducible exact set_tsI _ _ _ _ | with_reducible exact set_boN _ _ _ _ | with_reducible exact set_boI _ _ _ _ | (with_reducible refine get_mapN _ _ _ ?_; first | omega | (simp; omega)) | (with_reducible refine get_mapI _ _ _ ?_ ?_ <;> first | omega | (simp; omega)) | exact bs_beq _ _ | exact bs_less _ _ | exact bs_leq _ _ | with_reducible exact bs_app _ _ | (refine bs_get _ _ ?_; omega) | (refine bs_int _ _ ?_ ?_ <;> omega) | with_reducible exact sl_map0 _ _ _ | with_reducible exact sl_mapN _ _ _ | with_reducible exact sl_map _ _ _ _ | exact bs_extract0 _ _ | exact bs_extractN _ _ | exact bs_extract _ _ _ | (refine bnd_id ?_; omega) | (refine bnd_sub ?_ ?_ <;> omega) | (refine bnd_add ?_; omega) | (refine bnd_subN ?_ ?_ <;> omega) | (refine bnd_int ?_ ?_ <;> omega) | ((show @Eq Nat (_ + Int.toNat _ * _) _); simp only [Int.toNat_natCast, Nat.zero_add, Nat.mul_one]; rfl) | ((show @Eq (List _) (List.set [_] _ _) _); simp only [List.set_cons_zero]; rfl) | exact List.length_map _ | exact size_bs _ | (simp only [List.length_map, List.length_append, List.length_cons, List.length_nil, List.length_replicate, Nat.zero_add]; rfl) | with_reducible exact List.nil_append _ | with_reducible exact map_app _ _ _ | exact map_snoc byD _ _ | exact map_snoc inD _ _ | exact map_snoc stD _ _ | exact map_snoc tsD _ _ | (simp only [chunks]; rfl) | (refine wid ?_ ?_ <;> omega) | exact wby _ | with_reducible exact wby32 _ | with_reducible exact wu32 _ | exact wby64 _ | exact shr8 _ | exact shr16 _ | exact shr24 _ | exact shr32 _ | (refine tmodn ?_; omega) | (refine wdiv ?_ ?_ ?_ <;> omega) | exact wbyte _ | exact natlit _ | exact rep_by _ | exact rep_in _ | exact rep_bo _ | exact rep_st _ | (refine pick_nat _ _ _ ?_; omega) | (refine pick_int _ _ _ ?_ ?_ <;> omega) | (refine SlOf.full ?_; first | (simp; done) | (simp; omega)) | (with_reducible refine SlOf.pre _ _ ?_; first | omega | (simp; omega)) | (refine SlF.self _ _ ?_ ?_; (first | rfl | omega | (simp; done) | (simp; omega)); (exact fun _ => rfl)) | (refine SlF.pre _ _ ?_ ?_; (first | omega | (simp; omega)); (exact fun _ => rfl)) | (refine SlF.same ?_ ?_; (first | rfl | omega | (simp; done) | (simp; omega)); (first | exact fz_self _ _ (fun _ => rfl) | exact fz_pl rfl | (refine Fz.append ?_ ?_ <;> first | exact fz_self _ _ (fun _ => rfl) | exact fz_pl rfl) | (refine Fz.append (Fz.append ?_ ?_) ?_ <;> first | exact fz_self _ _ (fun _ => rfl) | exact fz_pl rfl))) | (simp only [Int.toNat_natCast, Nat.zero_add, Nat.mul_one]; rfl) | ((show @Eq (Option CV) _ _); rfl) | ((fail_if_success (show @Eq (Option _) _ _)); rfl) | ((show @Eq (Option _) _ _); simp only [List.getElem?_cons_zero, List.getElem?_cons_succ]; done) | ((show @Eq (Option _) _ _); simp only [List.getElem?_cons_zero, List.getElem?_cons_succ]; rfl) | with_reducible rfl)); conv => whnf))); exact Done.mk trivial))); conv => whnf)
    | (refine Pick.mk ?_ ?_ ?_; rotate_left; (focus (exact bs_beq _ _)); conv => whnf))
   try (conv => whnf)
   repeat' (first
    | (refine Pick.mk ?_ ?_ ?_; rotate_left; (focus (first | (refine wid ?_ ?_ <;> omega) | (refine pick_nat _ _ _ ?_; omega))); conv => whnf)
    | (refine SeqJ.thru ?_; conv => whnf)
    | (refine br_dec (fun _ => ?_) (fun _ => ?_) <;> first | (exfalso; omega) | contradiction | conv => whnf)
    | (refine br_not ?_; conv => whnf)
    | (refine br_bne (fun _ => ?_) (fun _ => ?_) <;> first | (exfalso; omega) | contradiction | conv => whnf)
    | (refine br_beq (fun _ => ?_) (fun _ => ?_) <;> first | (exfalso; omega) | contradiction | conv => whnf))
   refine Hand.mk [] ?_
   try (conv => whnf)
   refine CallW.d (l_markText _ (by omega) (by omega)) ?_
   try (conv => whnf)
   repeat (first
    | (refine Need.mk ?_ ?_; (focus (((conv => whnf); (repeat (first | (refine Need.mk (by first | rfl | omega | (simp; done)) ?_; conv => whnf) | (refine Pick.mk ?_ ?_ ?_; rotate_left; (focus (first | with_reducible exact xor_u8 _ _ | (with_reducible refine xor_i64 ?_ ?_; all_goals omega) | (with_reducible refine xor_u32 ?_ ?_; all_goals omega) | exact List.set_set .. | (refine List.getElem?_set_self ?_; assumption) | assumption | with_reducible exact set_byN _ _ _ _ | with_reducible exact set_byI _ _ _ _ | with_reducible exact set_inN _ _ _ _ | with_reducible exact set_inI _ _ _ _ | with_reducible exact set_stN _ _ _ _ | with_reducible exact set_tsN _ _ _ _ | with_reducible exact set_tsI _ _ _ _ | with_reducible exact set_boN _ _ _ _ | with_reducible exact set_boI _ _ _ _ | (with_reducible refine get_mapN _ _ _ ?_; first | omega | (simp; omega)) | (with_reducible refine get_mapI _ _ _ ?_ ?_ <;> first | omega | (simp; omega)) | exact bs_beq _ _ | exact bs_less _ _ | exact bs_leq _ _ | with_reducible exact bs_app _ _ | (refine bs_get _ _ ?_; omega) | (refine bs_int _ _ ?_ ?_ <;> omega) | with_reducible exact sl_map0 _ _ _ | with_reducible exact sl_mapN _ _ _ | with_reducible exact sl_map _ _ _ _ | exact bs_extract0 _ _ | exact bs_extractN _ _ | exact bs_extract _ _ _ | (refine bnd_id ?_; omega) | (refine bnd_sub ?_ ?_ <;> omega) | (refine bnd_add ?_; omega) | (refine bnd_subN ?_ ?_ <;> omega) | (refine bnd_int ?_ ?_ <;> omega) | ((show @Eq Nat (_ + Int.toNat _ * _) _); simp only [Int.toNat_natCast, Nat.zero_add, Nat.mul_one]; rfl) | ((show @Eq (List _) (List.set [_] _ _) _); simp only [List.set_cons_zero]; rfl) | exact List.length_map _ | exact size_bs _ | (simp only [List.length_map, List.length_append, List.length_cons, List.length_nil, List.length_replicate, Nat.zero_add]; rfl) | with_reducible exact List.nil_append _ | with_reducible exact map_app _ _ _ | exact map_snoc byD _ _ | exact map_snoc inD _ _ | exact map_snoc stD _ _ | exact map_snoc tsD _ _ | (simp only [chunks]; rfl) | (refine wid ?_ ?_ <;> omega) | exact wby _ | with_reducible exact wby32 _ | with_reducible exact wu32 _ | exact wby64 _ | exact shr8 _ | exact shr16 _ | exact shr24 _ | exact shr32 _ | (refine tmodn ?_; omega) | (refine wdiv ?_ ?_ ?_ <;> omega) | exact wbyte _ | exact natlit _ | exact rep_by _ | exact rep_in _ | exact rep_bo _ | exact rep_st _ | (refine pick_nat _ _ _ ?_; omega) | (refine pick_int _ _ _ ?_ ?_ <;> omega) | (refine SlOf.full ?_; first | (simp; done) | (simp; omega)) | (with_reducible refine SlOf.pre _ _ ?_; first | omega | (simp; omega)) | (refine SlF.self _ _ ?_ ?_; (first | rfl | omega | (simp; done) | (simp; omega)); (exact fun _ => rfl)) | (refine SlF.pre _ _ ?_ ?_; (first | omega | (simp; omega)); (exact fun _ => rfl)) | (refine SlF.same ?_ ?_; (first | rfl | omega | (simp; done) | (simp; omega)); (first | exact fz_self _ _ (fun _ => rfl) | exact fz_pl rfl | (refine Fz.append ?_ ?_ <;> first | exact fz_self _ _ (fun _ => rfl) | exact fz_pl rfl) | (refine Fz.append (Fz.append ?_ ?_) ?_ <;> first | exact fz_self _ _ (fun _ => rfl) | exact fz_pl rfl))) | (simp only [Int.toNat_natCast, Nat.zero_add, Nat.mul_one]; rfl) | ((show @Eq (Option CV) _ _); rfl) | ((fail_if_success (show @Eq (Option _) _ _)); rfl) | ((show @Eq (Option _) _ _); simp only [List.getElem?_cons_zero, List.getElem?_cons_succ]; done) | ((show @Eq (Option _) _ _); simp only [List.getElem?_cons_zero, List.getElem?_cons_succ]; rfl) | with_reducible rfl)); conv => whnf))); exact Done.mk trivial))); conv => whnf)
    | (refine Pick.mk ?_ ?_ ?_; rotate_left; (focus (exact bs_beq _ _)); conv => whnf))
   try (conv => whnf)
   repeat' (first
    | (refine Pick.mk ?_ ?_ ?_; rotate_left; (focus ((refine wid ?_ ?_ <;> omega))); conv => whnf)
    | (refine br_dec (fun _ => ?_) (fun _ => ?_) <;> first | (exfalso; omega) | contradiction | conv => whnf)
    | (refine br_not ?_; conv => whnf)
    | (refine br_bne (fun _ => ?_) (fun _ => ?_) <;> first | (exfalso; omega) | contradiction | conv => whnf)
    | (refine br_beq (fun _ => ?_) (fun _ => ?_) <;> first | (exfalso; omega) | contradiction | conv => whnf))
   refine Pick.mk (i + 1) (by constructor <;> first | omega | (simp only []; omega)) (LeX.of ?_)
   try (conv => whnf)
   repeat (refine Need.mk ?_ ?_; (focus (first | omega | (simp; done))); conv => whnf)
   trivial
  ·try (conv => whnf)
   repeat' (first
    | (refine Pick.mk ?_ ?_ ?_; rotate_left; (focus (exact List.length_map _)); conv => whnf)
    | (refine SeqJ.thru ?_; conv => whnf)
    | (refine br_dec (fun _ => ?_) (fun _ => ?_) <;> first | (exfalso; omega) | contradiction | conv => whnf)
    | (refine br_not ?_; conv => whnf)
    | (refine br_bne (fun _ => ?_) (fun _ => ?_) <;> first | (exfalso; omega) | contradiction | conv => whnf)
    | (refine br_beq (fun _ => ?_) (fun _ => ?_) <;> first | (exfalso; omega) | contradiction | conv => whnf))
   refine Out.mk true [] [] ?_
   try (conv => whnf)
   exact ⟨vI_ext (by omega), rfl⟩
end Go.Proofs.Ytpdjehnlejjfmaa.D
/- The law FnExactReadLog, as a call that gives back true. -/
namespace Go.Proofs.Ytpdjehnlejjfmaa.D
open Go.RowKit
set_option maxRecDepth 100000
set_option maxHeartbeats 40000000
set_option linter.unusedVariables false
set_option linter.unusedSimpArgs false

theorem l_toByteSg (l : List UInt8) (hl : l.length ≤ 2 ^ 39) : CallM Try.prog id_laws_toByteS [vY l] [] [] true fun r Lo => r = vY l ∧ Lo = [] := by
 refine F_laws_toByteS ?_
 try (conv => whnf)
 repeat (first
  | (refine Need.mk ?_ ?_; (focus (omega)); conv => whnf)
  | (refine Pick.mk ?_ ?_ ?_; rotate_left; (focus (first | exact List.length_map _ | exact natlit _ | exact rep_by _)); conv => whnf))
 refine LoopE.mk (fun i : Nat => mk [(0, vY l), (3, .one (.os (.v 8224) 1 0 l.length)), (4, vI .i64 i)] [(8224, .own 1 ((over l (List.replicate l.length 0) i).map byD))]) (fun i => i ≤ l.length) (fun i => l.length - i) 0 (by omega) (LeX.of ?_) ?_
 ·try (conv => whnf)
  repeat (refine Need.mk ?_ ?_; (focus (first | omega | (simp; done) | rfl)); conv => whnf)
  trivial
 ·intro i hi
  try (conv => whnf)
  repeat' (first
   | (refine Need.mk ?_ ?_; (focus (omega)); conv => whnf)
   | (refine Pick.mk ?_ ?_ ?_; rotate_left; (focus (first | exact List.length_map _ | (refine pick_nat _ _ _ ?_; omega))); conv => whnf)
   | (refine SeqJ.thru ?_; conv => whnf)
   | (refine br_dec (fun _ => ?_) (fun _ => ?_) <;> first | (exfalso; omega) | contradiction | conv => whnf)
   | (refine br_not ?_; conv => whnf)
   | (refine br_bne (fun _ => ?_) (fun _ => ?_) <;> first | (exfalso; omega) | contradiction | conv => whnf)
   | (refine br_beq (fun _ => ?_) (fun _ => ?_) <;> first | (exfalso; omega) | contradiction | conv => whnf))
  ·refine Pick.mk (byD 0) (by rw [addN_eq, List.getElem?_map, show 0 + (i : Int).toNat = i by omega, over_get (by simp) (by simp; omega)]; simp) ?_
   try (conv => whnf)
   repeat (first
    | (refine Need.mk ?_ ?_; (focus ((simp only [List.length_map, List.length_append, List.length_cons, List.length_nil, List.length_replicate]; omega))); conv => whnf)
    | (refine Pick.mk ?_ ?_ ?_; rotate_left; (focus (first | with_reducible exact set_byN _ _ _ _ | (refine wid ?_ ?_ <;> omega))); conv => whnf))
   refine Pick.mk (i + 1) (by constructor <;> first | omega | (simp only []; omega)) (LeX.of ?_)
   try (conv => whnf)
   repeat (refine Need.mk ?_ ?_; (focus (first | omega | (simp; done))); conv => whnf)
   refine Need.mk (by rw [over_set (by simp) (by simp; omega)]) ?_
   try (conv => whnf)
   trivial
  ·refine Out.mk true [] [] ?_
   try (conv => whnf)
   repeat (refine Need.mk ?_ ?_; (focus ((first | exact flat_by _ | exact flat_in _ | exact flat_st _ | exact flat_ts _ | exact flat_bo _ | exact flat_cl rfl))); conv => whnf)
   refine Pick.mk (l.map byD) (by rw [over_end (by simp) (by simp; omega)]; exact SlF.self _ _ rfl (fun _ => rfl)) ?_
   try (conv => whnf)
   exact ⟨rfl, rfl⟩
theorem RlA.small {l : List UInt8} {c : Int} {L : List OpV} (h : RlA l c L) : L.length ≤ 2 ^ 20 ∧ ∀ o ∈ L, OpOk o := by
 rcases h with ⟨_, h, _⟩ | ⟨_, rfl, _⟩
 ·exact ⟨by have := h.len; omega, h.good.all⟩
 ·simp
theorem law_ReadLog (l : List UInt8) (hl : l.length ≤ 2 ^ 47) : CallD Try.prog id_laws_FnExactReadLog [vY l] [] (vB true) [] := by
 refine F_laws_FnExactReadLog ?_
 try (conv => whnf)
 repeat' (first
  | (refine Pick.mk ?_ ?_ ?_; rotate_left; (focus (exact List.length_map _)); conv => whnf)
  | (refine SeqJ.thru ?_; conv => whnf)
  | (refine br_dec (fun _ => ?_) (fun _ => ?_) <;> first | (exfalso; omega) | contradiction | conv => whnf)
  | (refine br_not ?_; conv => whnf)
  | (refine br_bne (fun _ => ?_) (fun _ => ?_) <;> first | (exfalso; omega) | contradiction | conv => whnf)
  | (refine br_beq (fun _ => ?_) (fun _ => ?_) <;> first | (exfalso; omega) | contradiction | conv => whnf))
 ·refine Out.mk true [] [] ?_
  try (conv => whnf)
  exact ⟨rfl, rfl⟩
 have t := l_toByteS l (by omega)
 have c1 := s_ReadLog l hl
 have c2 := i_ReadLog l hl
 unfold RlP at c2
 unfold RlS at c1
 have cb := l_eqByteS l l (by omega) (by omega)
 refine Hand.mk [] ?_
 try (conv => whnf)
 refine CallW.n (l_toByteSg l (by omega)) ?_
 rintro _ _ ⟨rfl, rfl⟩
 try (conv => whnf)
 refine Hand.mk [] ?_
 try (conv => whnf)
 refine CallW.n (c1) ?_
 rintro _ _ ⟨L, e, hA, rfl, rfl⟩
 obtain ⟨hL1, hL2⟩ := hA.small
 have hLw : ∀ o ∈ L, o.deps.length ≤ 2 ^ 39 ∧ o.key.length ≤ 2 ^ 39 ∧ o.text.length ≤ 2 ^ 39 := fun o ho => by
  have h := hL2 o ho
  have h1 := h.vec.1
  have h2 := h.words
  omega
 have ce := l_eqOpS L (by omega) hLw
 have hml : L.length = (markL 1 L.length).length := by simp
 have ch := l_heldOpS L.length 1 (by omega) (by omega) (by omega)
 try (conv => whnf)
 refine Hand.mk [] ?_
 try (conv => whnf)
 refine CallW.d (t) ?_
 try (conv => whnf)
 refine Hand.mk [] ?_
 try (conv => whnf)
 repeat (refine Pick.mk ?_ ?_ ?_; rotate_left; (focus ((refine SlF.self _ _ ?_ ?_; (first | rfl | omega | (simp; done) | (simp; omega)); (exact fun _ => rfl)))); conv => whnf)
 refine CallW.r (c2) ?_
 rintro _ _ ⟨ps, e2, hB, hpg, rfl, rfl⟩
 have hu := hA.uniq hB
 have hps : ps.map (·.2) = L := hu.2.symm
 have he := hu.1
 have hpl : ps.length = L.length := by rw [← hps]; simp
 rw [hpl, ← he]
 try (conv => whnf)
 repeat (refine SeqJ.thru ?_; conv => whnf)
 refine Hand.mk [] ?_
 try (conv => whnf)
 repeat (refine Pick.mk ?_ ?_ ?_; rotate_left; (focus (first | exact SlF.self _ oD rfl (fun _ => rfl) | exact sl_opsP hps rfl)); conv => whnf)
 refine CallW.d (ce) ?_
 try (conv => whnf)
 try (conv => whnf)
 repeat' (first
  | (refine SeqJ.thru ?_; conv => whnf)
  | (refine br_dec (fun _ => ?_) (fun _ => ?_) <;> first | (exfalso; omega) | contradiction | conv => whnf)
  | (refine br_not ?_; conv => whnf)
  | (refine br_bne (fun _ => ?_) (fun _ => ?_) <;> first | (exfalso; omega) | contradiction | conv => whnf)
  | (refine br_beq (fun _ => ?_) (fun _ => ?_) <;> first | (exfalso; omega) | contradiction | conv => whnf))
 refine Hand.mk [] ?_
 try (conv => whnf)
 refine CallW.d (t) ?_
 try (conv => whnf)
 refine Hand.mk [] ?_
 try (conv => whnf)
 repeat (refine Pick.mk ?_ ?_ ?_; rotate_left; (focus ((refine SlF.self _ _ ?_ ?_; (first | rfl | omega | (simp; done) | (simp; omega)); (exact fun _ => rfl)))); conv => whnf)
 refine CallW.d (cb) ?_
 try (conv => whnf)
 try (conv => whnf)
 repeat' (first
  | (refine br_dec (fun _ => ?_) (fun _ => ?_) <;> first | (exfalso; omega) | contradiction | conv => whnf)
  | (refine br_not ?_; conv => whnf)
  | (refine br_bne (fun _ => ?_) (fun _ => ?_) <;> first | (exfalso; omega) | contradiction | conv => whnf)
  | (refine br_beq (fun _ => ?_) (fun _ => ?_) <;> first | (exfalso; omega) | contradiction | conv => whnf))
 refine Hand.mk [0] ?_
 try (conv => whnf)
 refine CallW.m (l_markByteS l 1 (by omega) (by omega) (by omega)) ?_
 try (conv => whnf)
 repeat (refine SeqJ.thru ?_; conv => whnf)
 try (conv => whnf)
 repeat' (first
  | (refine br_dec (fun _ => ?_) (fun _ => ?_) <;> first | (exfalso; omega) | contradiction | conv => whnf)
  | (refine br_not ?_; conv => whnf)
  | (refine br_bne (fun _ => ?_) (fun _ => ?_) <;> first | (exfalso; omega) | contradiction | conv => whnf)
  | (refine br_beq (fun _ => ?_) (fun _ => ?_) <;> first | (exfalso; omega) | contradiction | conv => whnf))
 refine Hand.mk [] ?_
 try (conv => whnf)
 repeat (refine Pick.mk ?_ ?_ ?_; rotate_left; (focus (first | exact SlF.self _ oD rfl (fun _ => rfl) | exact sl_opsP hps rfl)); conv => whnf)
 refine CallW.d (ce) ?_
 try (conv => whnf)
 try (conv => whnf)
 repeat' (first
  | (refine br_dec (fun _ => ?_) (fun _ => ?_) <;> first | (exfalso; omega) | contradiction | conv => whnf)
  | (refine br_not ?_; conv => whnf)
  | (refine br_bne (fun _ => ?_) (fun _ => ?_) <;> first | (exfalso; omega) | contradiction | conv => whnf)
  | (refine br_beq (fun _ => ?_) (fun _ => ?_) <;> first | (exfalso; omega) | contradiction | conv => whnf))
 have cm := l_markOpP ps 1 (by omega) hpg (by omega) (by omega)
 rw [hpl] at cm
 refine Hand.mk [0] ?_
 try (conv => whnf)
 refine CallW.r (cm) ?_
 rintro _ _ ⟨ms, hms, rfl, rfl⟩
 try (conv => whnf)
 refine Hand.mk [] ?_
 try (conv => whnf)
 repeat (refine Pick.mk ?_ ?_ ?_; rotate_left; (focus (exact sl_opsP hms hml)); conv => whnf)
 refine CallW.d (ch) ?_
 try (conv => whnf)
 repeat (refine SeqJ.thru ?_; conv => whnf)
 try (conv => whnf)
 repeat' (first
  | (refine br_dec (fun _ => ?_) (fun _ => ?_) <;> first | (exfalso; omega) | contradiction | conv => whnf)
  | (refine br_not ?_; conv => whnf)
  | (refine br_bne (fun _ => ?_) (fun _ => ?_) <;> first | (exfalso; omega) | contradiction | conv => whnf)
  | (refine br_beq (fun _ => ?_) (fun _ => ?_) <;> first | (exfalso; omega) | contradiction | conv => whnf))
 refine Hand.mk [] ?_
 try (conv => whnf)
 refine CallW.d (t) ?_
 try (conv => whnf)
 refine Hand.mk [] ?_
 try (conv => whnf)
 repeat (refine Pick.mk ?_ ?_ ?_; rotate_left; (focus ((refine SlF.self _ _ ?_ ?_; (first | rfl | omega | (simp; done) | (simp; omega)); (exact fun _ => rfl)))); conv => whnf)
 refine CallW.r (c2) ?_
 rintro _ _ ⟨ps2, e3, hB2, hpg2, rfl, rfl⟩
 have hu2 := hA.uniq hB2
 have hps2 : ps2.map (·.2) = L := hu2.2.symm
 have he2 := hu2.1
 have hpl2 : ps2.length = L.length := by rw [← hps2]; simp
 rw [hpl2, ← he2]
 try (conv => whnf)
 repeat (refine SeqJ.thru ?_; conv => whnf)
 refine Hand.mk [] ?_
 try (conv => whnf)
 repeat (refine Pick.mk ?_ ?_ ?_; rotate_left; (focus (first | exact SlF.self _ oD rfl (fun _ => rfl) | exact sl_opsP hps2 rfl)); conv => whnf)
 refine CallW.d (ce) ?_
 try (conv => whnf)
 try (conv => whnf)
 repeat' (first
  | (refine br_dec (fun _ => ?_) (fun _ => ?_) <;> first | (exfalso; omega) | contradiction | conv => whnf)
  | (refine br_not ?_; conv => whnf)
  | (refine br_bne (fun _ => ?_) (fun _ => ?_) <;> first | (exfalso; omega) | contradiction | conv => whnf)
  | (refine br_beq (fun _ => ?_) (fun _ => ?_) <;> first | (exfalso; omega) | contradiction | conv => whnf))
 refine Hand.mk [] ?_
 try (conv => whnf)
 repeat (refine Pick.mk ?_ ?_ ?_; rotate_left; (focus (exact sl_opsP hms hml)); conv => whnf)
 refine CallW.d (ch) ?_
 try (conv => whnf)
 repeat (refine SeqJ.thru ?_; conv => whnf)
 try (conv => whnf)
 repeat' (first
  | (refine br_dec (fun _ => ?_) (fun _ => ?_) <;> first | (exfalso; omega) | contradiction | conv => whnf)
  | (refine br_not ?_; conv => whnf)
  | (refine br_bne (fun _ => ?_) (fun _ => ?_) <;> first | (exfalso; omega) | contradiction | conv => whnf)
  | (refine br_beq (fun _ => ?_) (fun _ => ?_) <;> first | (exfalso; omega) | contradiction | conv => whnf))
 refine Out.mk true [] [] ?_
 try (conv => whnf)
 exact ⟨rfl, rfl⟩
end Go.Proofs.Ytpdjehnlejjfmaa.D
/- From a call's contract to the given row: the arguments as they read. -/
namespace Go.Proofs.Ytpdjehnlejjfmaa.D
open Go.ChangeShapes Go.WideShapes Go.ChangeAt Go.RowKit
open Go.ChangeMaps (open_string)
set_option linter.unusedVariables false
set_option linter.unusedSimpArgs false

def cellsV (w : World) : View := fun x => w.cell? x
theorem satL0 (w : World) : SatL w Rows0.none (cellsV w) (fun _ => none) (Lof []) w :=
 ⟨Keep.refl _ _, fun _ _ h => h, fun x v p b n _ h => by simp at h, fun p q b n n' h => by simp at h, fun p b n h => by simp at h, fun p r h => by simp [Lof] at h, ⟨by simp [Rows0.none], fun q x h => by simp [Rows0.none] at h⟩, fun _ _ => ⟨rfl, fun _ _ => rfl⟩,
  fun p r h => by simp [Lof] at h, fun t => .one (.dead _), rfl, rfl⟩
theorem enter_law {P : Program} {f : FuncId} {args : List SV} {w : World} {vs : List Value} (h : CallD P f args [] (vB true) []) (ha : Args (cellsV w) (fun _ => none) args vs) :
  Calls P f vs.toArray w (fun e w' => e = .returned (.bool true) ∧ Below w.heap.size w w') := by
 refine (h.2 w Rows0.none _ _ vs rfl (satL0 w) ha).mono ?_
 rintro e w' ⟨v, V', bs', res, Lo, rfl, ⟨rfl, rfl⟩, -, -, -, hs, hv, -⟩
 refine ⟨?_, hs.keep.below⟩
 cases hv with
 |one h => cases h with
  | dv h => cases h; rfl
theorem args0 {V : View} {b : Loc} : Args V b [] [] := ⟨rfl, fun i sv v h => by simp at h⟩
theorem argsC {V : View} {b : Loc} {a : SV} {v : Value} {az : List SV} {vs : List Value} (h : VR V b a v) (t : Args V b az vs) : Args V b (a :: az) (v :: vs) :=
 ⟨by simp [t.len], fun i sv u h1 h2 => by
  cases i with
  | zero => simp at h1 h2; subst h1; subst h2; exact h
  | succ i => exact t.get i sv u (by simpa using h1) (by simpa using h2)⟩
section
variable {H : Type} {enc : TypeId × Value → H} {P : Program} {W : World} {base : Nat} {sp : Nat → Bool} {held : Bool}
theorem u8_of {n : Int} (h : (Lit.int .u8 n).wf = true) : ∃ b : UInt8, n = b.toNat := by
 have : 0 ≤ n ∧ n < 256 := by
  simp [Lit.wf, IntKind.min, IntKind.max, IntKind.bits, IntKind.signed] at h
  omega
 exact ⟨u8 n, by rw [u8_val]; omega⟩
theorem list_of {α : Type} (p : α → Int → Prop) : ∀ (zs : List Int), (∀ n ∈ zs, ∃ a, p a n) → ∃ l : List α, l.length = zs.length ∧ ∀ i (h : i < l.length) (h2 : i < zs.length), p l[i] zs[i]
 | [], _ => ⟨[], rfl, fun i h => by simp at h⟩
 |z :: zs, h => by
  obtain ⟨a, ha⟩ := h z (by simp)
  obtain ⟨l, hl, hp⟩ := list_of p zs fun n hn => h n (by simp [hn])
  refine ⟨a :: l, by simp [hl], fun i h h2 => ?_⟩
  cases i with
  | zero => exact ha
  | succ i => exact hp i (by simpa using h) (by simpa using h2)
theorem rd_cells {W : World} {x : Addr} {len cap : Nat} {es : List DV} {g : Nat → Value} (hl : es.length = len) (hc : len ≤ cap) (hg : ∀ i, i < len → W.cell? (x.add i) = some (g i))
  (hr : ∀ i (h : i < es.length), Rd (cellsV W) (g i) es[i]) : Rd (cellsV W) (.slice (some x) len cap) (.sl (es.map fun e => [e])) := by
 by_cases h0 : len = 0
 ·subst h0
  have : es = [] := List.eq_nil_of_length_eq_zero hl
  subst this
  exact .nil _ _
 ·have hx : x = ⟨x.block, x.off, none⟩ := by
   have h1 := hg 0 (by omega)
   have h2 : x.add 0 = x := by simp [Addr.add]
   rw [h2] at h1
   have h3 : x.spot = none := by
    simp only [World.cell?] at h1
    split at h1
    ·split at h1
     ·simp at h1
     ·rename_i h; simpa using h
    ·simp at h1
   cases x; simp_all
  have := Rd.sl (V := cellsV W) x.block x.off 1 cap (es.map fun e => [e]) (fun i _ => g i) (by simp; omega) (by simp) (fun i j hi hj => by
   have h1 := hg i (by simpa [hl] using hi)
   have h2 : x.add i = ⟨x.block, x.off + i * 1 + j, none⟩ := by
    rcases Nat.eq_zero_or_pos i with rfl | hi0
    ·rw [show x.add 0 = x from by simp [Addr.add]]
     simp only [Nat.zero_mul, Nat.add_zero]
     have : j = 0 := by omega
     subst this
     exact hx
    ·unfold Addr.add
     rw [if_neg (by omega)]
     have : j = 0 := by omega
     subst this
     simp
   rw [h2] at h1
   exact h1) (fun i j hi hj => by
   simp at hj
   subst hj
   simpa using hr i (by simpa using hi))
  rw [hx]
  simpa [hl] using this
theorem in_bytes {t e : TypeId} {a : Option Addr} {len cap : Nat} {d : DataW H} {ps : List MemPlace} {ts : List TypeId} {ds : List (DataW H)} {j : Nat} (hsz : (DataW.weightsEach P ts ds).all (· ≤ reachBytes) = true) (h1 : ts[j]? = some t) (h2 : ds[j]? = some d)
  (ht : P.underlying t = some (.slice e)) (he : P.underlying e = some (.int .u8)) (hc : P.cellsOf e = 1) (hb : P.bytesOf e = 1)
  (h : DataW.Trod enc P W base sp held t (.slice a len cap) d ps) : ∃ l : List UInt8, l.length = len ∧ l.length ≤ 2 ^ 47 ∧ Rd (cellsV W) (.slice a len cap) (.sl (l.map byD)) := by
 obtain ⟨fuel, hf⟩ := h
 rcases open_ints ht he hc hf with ⟨hcs, _⟩ | ⟨x, l, c, zs, hcs, _, hl, hm, hz, hx, hcell, hwz⟩
 ·simp [Value.cells] at hcs
  obtain ⟨rfl, rfl, rfl⟩ := hcs
  exact ⟨[], rfl, by simp, .nil _ _⟩
 ·simp [Value.cells] at hcs
  obtain ⟨rfl, rfl, rfl⟩ := hcs
  obtain ⟨hx, _⟩ := Prod.mk.inj hx
  subst hx
  have z := sized_slice hsz h1 h2 ht
  have hr := reachBytes_lt
  rw [hb] at z
  have hll : (lits (H := H) .u8 (zs.take len)).length + (lits (H := H) .u8 (zs.drop len)).length = zs.length := by
   simp [lits]; omega
  have hzl : len ≤ zs.length := by rw [hz]; split <;> omega
  obtain ⟨bsl, hbl, hp⟩ := list_of (fun (b : UInt8) n => n = b.toNat) zs fun n hn => u8_of (hwz n hn)
  refine ⟨bsl.take len, by simp; omega, by simp; omega, ?_⟩
  have := rd_cells (W := W) (x := x) (len := len) (cap := cap) (es := (bsl.take len).map fun b => DV.sc (.int .u8 b.toNat)) (g := fun i => .int .u8 (zs.getD i 0)) (by simp; omega) hl (fun i hi => hcell i (by omega)) (fun i hi => by
   simp only [List.length_map, List.length_take] at hi
   have := hp i (by omega) (by omega)
   simp only [List.getElem_map, List.getElem_take]
   rw [show zs.getD i 0 = zs[i]'(by omega) by simp [List.getD, show i < zs.length by omega], this]
   exact .sc _ rfl)
  rw [List.map_map] at this
  exact this
theorem vrY {l : List UInt8} {v : Value} {b : Loc} (h : Rd (cellsV W) v (.sl (l.map byD))) : VR (cellsV W) b (vY l) v := .one (.dv h)
end
end Go.Proofs.Ytpdjehnlejjfmaa.D
