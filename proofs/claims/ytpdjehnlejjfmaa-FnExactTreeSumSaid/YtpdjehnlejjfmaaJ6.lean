/- Operations told to be in order, by both. -/
import Derived.Test.YtpdjehnlejjfmaaJ5
set_option linter.unusedVariables false
set_option linter.unusedSimpArgs false
namespace Go.Proofs.Ytpdjehnlejjfmaa.D
open Go.RowKit
set_option maxRecDepth 100000
set_option maxHeartbeats 4000000
set_option linter.unusedVariables false
set_option linter.unusedSimpArgs false

theorem own_at {o : OpV} (h : VecOk o.deps) (ha : actOk o.actor) : ∃ hlt : o.actor.toNat < o.deps.length, o.deps.getD o.actor.toNat 0 = o.deps[o.actor.toNat] := by
 have := h.1
 refine ⟨by omega, ?_⟩
 simp [List.getD, show o.actor.toNat < o.deps.length by omega]
theorem i_opOK (o : OpV) (hk : o.key.length ≤ 2 ^ 40) (ht : o.text.length ≤ 2 ^ 40) : CallD Try.prog id_impl_opOK [vO o] [] (vB (decide (OpOk o))) [] := by
 refine F_impl_opOK ?_
 try (conv => whnf)
 repeat (refine SeqJ.thru ?_; conv => whnf)
 refine Hand.mk [] ?_
 try (conv => whnf)
 refine CallW.d (i_stamp o) ?_
 try (conv => whnf)
 refine Hand.mk [] ?_
 try (conv => whnf)
 refine CallW.d (i_StampOK o.time o.actor) ?_
 try (conv => whnf)
 by_cases hst : stOk o.time o.actor
 ·obtain ⟨⟨t1, t2⟩, a1, a2⟩ := id hst
  by_cases hv : VecOk o.deps
  ·have hvl := hv.1
   obtain ⟨hlt, hown⟩ := own_at hv ⟨a1, a2⟩
   try (conv => whnf)
   repeat' (first
    | (refine br_dec (fun _ => ?_) (fun _ => ?_) <;> first | (exfalso; omega) | contradiction | conv => whnf)
    | (refine br_not ?_; conv => whnf)
    | (refine br_bne (fun _ => ?_) (fun _ => ?_) <;> first | (exfalso; omega) | contradiction | conv => whnf)
    | (refine br_beq (fun _ => ?_) (fun _ => ?_) <;> first | (exfalso; omega) | contradiction | conv => whnf))
   rotate_left 2
   ·refine Hand.mk [] ?_
    try (conv => whnf)
    refine CallW.d (i_VecOK o.deps) ?_
    try (conv => whnf)
    try (conv => whnf)
    repeat' (first
     | (refine Pick.mk ?_ ?_ ?_; rotate_left; (focus (first | exact size_bs _ | (refine wid ?_ ?_ <;> omega) | (refine pick_int _ _ _ ?_ ?_ <;> omega))); conv => whnf)
     | (refine SeqJ.thru ?_; conv => whnf)
     | (refine br_dec (fun _ => ?_) (fun _ => ?_) <;> first | (exfalso; omega) | contradiction | conv => whnf)
     | (refine br_not ?_; conv => whnf)
     | (refine br_bne (fun _ => ?_) (fun _ => ?_) <;> first | (exfalso; omega) | contradiction | conv => whnf)
     | (refine br_beq (fun _ => ?_) (fun _ => ?_) <;> first | (exfalso; omega) | contradiction | conv => whnf))
    rotate_right 2
    ·by_cases hz : noSt o.atT o.atA
     ·have hb : (o.atT == 0 && o.atA == 0) = true := by simp [hz.1, hz.2]
      refine br_true hb ?_
      have hP : kindOk o → OpOk o := fun hk => ⟨hst, by omega, hv, by omega, by omega, by omega, by omega, by omega, .inl hz, hk⟩
      have hN : ¬ kindOk o → ¬ OpOk o := fun h g => h g.kind
      try (conv => whnf)
      repeat' (first
       | (refine Need.mk ?_ ?_; (focus (((conv => whnf); (repeat (first | (refine Need.mk (by first | rfl | omega | (simp; done)) ?_; conv => whnf) | (refine Pick.mk ?_ ?_ ?_; rotate_left; (focus (first | with_reducible exact xor_u8 _ _ | (with_reducible refine xor_i64 ?_ ?_; all_goals omega) | (with_reducible refine xor_u32 ?_ ?_; all_goals omega) | assumption | with_reducible exact set_byN _ _ _ _ | with_reducible exact set_byI _ _ _ _ | with_reducible exact set_inN _ _ _ _ | with_reducible exact set_inI _ _ _ _ | with_reducible exact set_stN _ _ _ _ | with_reducible exact set_tsN _ _ _ _ | with_reducible exact set_tsI _ _ _ _ | with_reducible exact set_boN _ _ _ _ | with_reducible exact set_boI _ _ _ _ | (with_reducible refine get_mapN _ _ _ ?_; first | omega | (simp; omega)) | (with_reducible refine get_mapI _ _ _ ?_ ?_ <;> first | omega | (simp; omega)) | exact bs_beq _ _ | exact bs_less _ _ | exact bs_leq _ _ | with_reducible exact bs_app _ _ | (refine bs_get _ _ ?_; omega) | (refine bs_int _ _ ?_ ?_ <;> omega) | with_reducible exact sl_map0 _ _ _ | with_reducible exact sl_mapN _ _ _ | with_reducible exact sl_map _ _ _ _ | exact bs_extract0 _ _ | exact bs_extractN _ _ | exact bs_extract _ _ _ | (refine bnd_id ?_; omega) | (refine bnd_sub ?_ ?_ <;> omega) | (refine bnd_add ?_; omega) | (refine bnd_subN ?_ ?_ <;> omega) | (refine bnd_int ?_ ?_ <;> omega) | ((show @Eq Nat (_ + Int.toNat _ * _) _); simp only [Int.toNat_natCast, Nat.zero_add, Nat.mul_one]; rfl) | ((show @Eq (List _) (List.set [_] _ _) _); simp only [List.set_cons_zero]; rfl) | exact List.length_map _ | exact size_bs _ | (simp only [List.length_map, List.length_append, List.length_cons, List.length_nil, List.length_replicate, Nat.zero_add]; rfl) | with_reducible exact List.nil_append _ | with_reducible exact map_app _ _ _ | exact map_snoc byD _ _ | exact map_snoc inD _ _ | exact map_snoc stD _ _ | exact map_snoc tsD _ _ | (simp only [chunks]; rfl) | (refine wid ?_ ?_ <;> omega) | exact wby _ | with_reducible exact wby32 _ | with_reducible exact wu32 _ | exact wby64 _ | exact shr8 _ | exact shr16 _ | exact shr24 _ | exact shr32 _ | (refine tmodn ?_; omega) | (refine wdiv ?_ ?_ ?_ <;> omega) | exact wbyte _ | exact natlit _ | exact rep_by _ | exact rep_in _ | exact rep_bo _ | exact rep_st _ | (refine pick_nat _ _ _ ?_; omega) | (refine pick_int _ _ _ ?_ ?_ <;> omega) | (refine SlOf.full ?_; first | (simp; done) | (simp; omega)) | (with_reducible refine SlOf.pre _ _ ?_; first | omega | (simp; omega)) | (refine SlF.self _ _ ?_ ?_; (first | rfl | omega | (simp; done) | (simp; omega)); (exact fun _ => rfl)) | (refine SlF.pre _ _ ?_ ?_; (first | omega | (simp; omega)); (exact fun _ => rfl)) | (refine SlF.same ?_ ?_; (first | rfl | omega | (simp; done) | (simp; omega)); (first | exact fz_self _ _ (fun _ => rfl) | exact fz_pl rfl | (refine Fz.append ?_ ?_ <;> first | exact fz_self _ _ (fun _ => rfl) | exact fz_pl rfl) | (refine Fz.append (Fz.append ?_ ?_) ?_ <;> first | exact fz_self _ _ (fun _ => rfl) | exact fz_pl rfl))) | (simp only [Int.toNat_natCast, Nat.zero_add, Nat.mul_one]; rfl) | ((show @Eq (Option CV) _ _); rfl) | ((fail_if_success (show @Eq (Option _) _ _)); rfl) | ((show @Eq (Option _) _ _); simp only [List.getElem?_cons_zero, List.getElem?_cons_succ]; done) | ((show @Eq (Option _) _ _); simp only [List.getElem?_cons_zero, List.getElem?_cons_succ]; rfl) | with_reducible rfl)); conv => whnf))); exact Done.mk trivial))); conv => whnf)
       | (refine Pick.mk ?_ ?_ ?_; rotate_left; (focus (exact bs_beq _ _)); conv => whnf)
       | (refine br_dec (fun _ => ?_) (fun _ => ?_) <;> first | contradiction | conv => whnf)
       | (refine br_not ?_; conv => whnf)
       | (refine br_bne (fun _ => ?_) (fun _ => ?_) <;> first | contradiction | conv => whnf)
       | (refine br_beq (fun _ => ?_) (fun _ => ?_) <;> first | contradiction | conv => whnf))
      all_goals
       first
        |skip
         refine Out.mk true [] [] ?_
         try (conv => whnf)
         try rw [hb]
         first
          | exact ⟨dec_t (hP (by first | exact .inl ⟨by assumption, by assumption, hz⟩ | exact .inr (.inr (.inl ⟨by assumption, ⟨by assumption, by assumption⟩, by assumption, hz⟩)) | exact .inr (.inr (.inr ⟨by assumption, ⟨by assumption, by assumption⟩, hz⟩)))), rfl⟩
          | exact ⟨dec_f (hN (by rintro (⟨k1, k2, k3⟩ | ⟨k1, ⟨k2, k4⟩, k3⟩ | ⟨k1, ⟨k2, k4⟩, k3, k5⟩ | ⟨k1, ⟨k2, k4⟩, k3⟩) <;> first | contradiction | omega)), rfl⟩
        |skip
         refine Hand.mk [] ?_
         try (conv => whnf)
         refine CallW.d (i_charOK o.n) ?_
         try (conv => whnf)
         refine Out.mk true [] [] ?_
         try (conv => whnf)
         exact ⟨dec_b ⟨fun h => hP (.inr (.inl ⟨by assumption, ⟨by assumption, by assumption⟩, h⟩)), fun h => by
          rcases h.kind with ⟨k1, k2, k3⟩ | ⟨k1, ⟨k2, k4⟩, k3⟩ | ⟨k1, ⟨k2, k4⟩, k3, k5⟩ | ⟨k1, ⟨k2, k4⟩, k3⟩ <;> first | exact k3 | omega⟩, rfl⟩
     ·have hb : (o.atT == 0 && o.atA == 0) = false := by
       cases h : (o.atT == 0 && o.atA == 0) with
       | false => rfl
       | true => simp at h; exact absurd h hz
      refine br_false hb ?_
      by_cases hs2 : stOk o.atT o.atA
      ·by_cases hsl : stLt o.atT o.atA o.time o.actor
       ·try (conv => whnf)
        refine Hand.mk [] ?_
        try (conv => whnf)
        refine CallW.d (i_StampOK o.atT o.atA) ?_
        try (conv => whnf)
        try (conv => whnf)
        repeat' (first
         | (refine br_dec (fun _ => ?_) (fun _ => ?_) <;> first | contradiction | conv => whnf)
         | (refine br_not ?_; conv => whnf)
         | (refine br_bne (fun _ => ?_) (fun _ => ?_) <;> first | contradiction | conv => whnf)
         | (refine br_beq (fun _ => ?_) (fun _ => ?_) <;> first | contradiction | conv => whnf))
        refine Hand.mk [] ?_
        try (conv => whnf)
        refine CallW.d (i_stamp o) ?_
        try (conv => whnf)
        repeat (refine Need.mk ?_ ?_; (focus (((conv => whnf); (repeat (first | (refine Need.mk (by first | rfl | omega | (simp; done)) ?_; conv => whnf) | (refine Pick.mk ?_ ?_ ?_; rotate_left; (focus (first | with_reducible exact xor_u8 _ _ | (with_reducible refine xor_i64 ?_ ?_; all_goals omega) | (with_reducible refine xor_u32 ?_ ?_; all_goals omega) | assumption | with_reducible exact set_byN _ _ _ _ | with_reducible exact set_byI _ _ _ _ | with_reducible exact set_inN _ _ _ _ | with_reducible exact set_inI _ _ _ _ | with_reducible exact set_stN _ _ _ _ | with_reducible exact set_tsN _ _ _ _ | with_reducible exact set_tsI _ _ _ _ | with_reducible exact set_boN _ _ _ _ | with_reducible exact set_boI _ _ _ _ | (with_reducible refine get_mapN _ _ _ ?_; first | omega | (simp; omega)) | (with_reducible refine get_mapI _ _ _ ?_ ?_ <;> first | omega | (simp; omega)) | exact bs_beq _ _ | exact bs_less _ _ | exact bs_leq _ _ | with_reducible exact bs_app _ _ | (refine bs_get _ _ ?_; omega) | (refine bs_int _ _ ?_ ?_ <;> omega) | with_reducible exact sl_map0 _ _ _ | with_reducible exact sl_mapN _ _ _ | with_reducible exact sl_map _ _ _ _ | exact bs_extract0 _ _ | exact bs_extractN _ _ | exact bs_extract _ _ _ | (refine bnd_id ?_; omega) | (refine bnd_sub ?_ ?_ <;> omega) | (refine bnd_add ?_; omega) | (refine bnd_subN ?_ ?_ <;> omega) | (refine bnd_int ?_ ?_ <;> omega) | ((show @Eq Nat (_ + Int.toNat _ * _) _); simp only [Int.toNat_natCast, Nat.zero_add, Nat.mul_one]; rfl) | ((show @Eq (List _) (List.set [_] _ _) _); simp only [List.set_cons_zero]; rfl) | exact List.length_map _ | exact size_bs _ | (simp only [List.length_map, List.length_append, List.length_cons, List.length_nil, List.length_replicate, Nat.zero_add]; rfl) | with_reducible exact List.nil_append _ | with_reducible exact map_app _ _ _ | exact map_snoc byD _ _ | exact map_snoc inD _ _ | exact map_snoc stD _ _ | exact map_snoc tsD _ _ | (simp only [chunks]; rfl) | (refine wid ?_ ?_ <;> omega) | exact wby _ | with_reducible exact wby32 _ | with_reducible exact wu32 _ | exact wby64 _ | exact shr8 _ | exact shr16 _ | exact shr24 _ | exact shr32 _ | (refine tmodn ?_; omega) | (refine wdiv ?_ ?_ ?_ <;> omega) | exact wbyte _ | exact natlit _ | exact rep_by _ | exact rep_in _ | exact rep_bo _ | exact rep_st _ | (refine pick_nat _ _ _ ?_; omega) | (refine pick_int _ _ _ ?_ ?_ <;> omega) | (refine SlOf.full ?_; first | (simp; done) | (simp; omega)) | (with_reducible refine SlOf.pre _ _ ?_; first | omega | (simp; omega)) | (refine SlF.self _ _ ?_ ?_; (first | rfl | omega | (simp; done) | (simp; omega)); (exact fun _ => rfl)) | (refine SlF.pre _ _ ?_ ?_; (first | omega | (simp; omega)); (exact fun _ => rfl)) | (refine SlF.same ?_ ?_; (first | rfl | omega | (simp; done) | (simp; omega)); (first | exact fz_self _ _ (fun _ => rfl) | exact fz_pl rfl | (refine Fz.append ?_ ?_ <;> first | exact fz_self _ _ (fun _ => rfl) | exact fz_pl rfl) | (refine Fz.append (Fz.append ?_ ?_) ?_ <;> first | exact fz_self _ _ (fun _ => rfl) | exact fz_pl rfl))) | (simp only [Int.toNat_natCast, Nat.zero_add, Nat.mul_one]; rfl) | ((show @Eq (Option CV) _ _); rfl) | ((fail_if_success (show @Eq (Option _) _ _)); rfl) | ((show @Eq (Option _) _ _); simp only [List.getElem?_cons_zero, List.getElem?_cons_succ]; done) | ((show @Eq (Option _) _ _); simp only [List.getElem?_cons_zero, List.getElem?_cons_succ]; rfl) | with_reducible rfl)); conv => whnf))); exact Done.mk trivial))); conv => whnf)
        refine Hand.mk [] ?_
        try (conv => whnf)
        refine CallW.d (i_StampLess o.atT o.atA o.time o.actor) ?_
        try (conv => whnf)
        have hP : kindOk o → OpOk o := fun hk => ⟨hst, by omega, hv, by omega, by omega, by omega, by omega, by omega, .inr ⟨hs2, hsl⟩, hk⟩
        have hN : ¬ kindOk o → ¬ OpOk o := fun h g => h g.kind
        try (conv => whnf)
        repeat' (first
         | (refine Pick.mk ?_ ?_ ?_; rotate_left; (focus (exact bs_beq _ _)); conv => whnf)
         | (refine br_dec (fun _ => ?_) (fun _ => ?_) <;> first | contradiction | conv => whnf)
         | (refine br_not ?_; conv => whnf)
         | (refine br_bne (fun _ => ?_) (fun _ => ?_) <;> first | contradiction | conv => whnf)
         | (refine br_beq (fun _ => ?_) (fun _ => ?_) <;> first | contradiction | conv => whnf))
        all_goals
         first
          |skip
           refine Out.mk true [] [] ?_
           try (conv => whnf)
           try rw [hb]
           first
            | exact ⟨dec_t (hP (by first | exact .inl ⟨by assumption, by assumption, hz⟩ | exact .inr (.inr (.inl ⟨by assumption, ⟨by assumption, by assumption⟩, by assumption, hz⟩)) | exact .inr (.inr (.inr ⟨by assumption, ⟨by assumption, by assumption⟩, hz⟩)))), rfl⟩
            | exact ⟨dec_f (hN (by rintro (⟨k1, k2, k3⟩ | ⟨k1, ⟨k2, k4⟩, k3⟩ | ⟨k1, ⟨k2, k4⟩, k3, k5⟩ | ⟨k1, ⟨k2, k4⟩, k3⟩) <;> first | contradiction | omega)), rfl⟩
          |skip
           refine Hand.mk [] ?_
           try (conv => whnf)
           refine CallW.d (i_charOK o.n) ?_
           try (conv => whnf)
           refine Out.mk true [] [] ?_
           try (conv => whnf)
           exact ⟨dec_b ⟨fun h => hP (.inr (.inl ⟨by assumption, ⟨by assumption, by assumption⟩, h⟩)), fun h => by
            rcases h.kind with ⟨k1, k2, k3⟩ | ⟨k1, ⟨k2, k4⟩, k3⟩ | ⟨k1, ⟨k2, k4⟩, k3, k5⟩ | ⟨k1, ⟨k2, k4⟩, k3⟩ <;> first | exact k3 | omega⟩, rfl⟩
       ·try (conv => whnf)
        refine Hand.mk [] ?_
        try (conv => whnf)
        refine CallW.d (i_StampOK o.atT o.atA) ?_
        try (conv => whnf)
        try (conv => whnf)
        repeat' (first
         | (refine br_dec (fun _ => ?_) (fun _ => ?_) <;> first | contradiction | conv => whnf)
         | (refine br_not ?_; conv => whnf)
         | (refine br_bne (fun _ => ?_) (fun _ => ?_) <;> first | contradiction | conv => whnf)
         | (refine br_beq (fun _ => ?_) (fun _ => ?_) <;> first | contradiction | conv => whnf))
        refine Hand.mk [] ?_
        try (conv => whnf)
        refine CallW.d (i_stamp o) ?_
        try (conv => whnf)
        repeat (refine Need.mk ?_ ?_; (focus (((conv => whnf); (repeat (first | (refine Need.mk (by first | rfl | omega | (simp; done)) ?_; conv => whnf) | (refine Pick.mk ?_ ?_ ?_; rotate_left; (focus (first | with_reducible exact xor_u8 _ _ | (with_reducible refine xor_i64 ?_ ?_; all_goals omega) | (with_reducible refine xor_u32 ?_ ?_; all_goals omega) | assumption | with_reducible exact set_byN _ _ _ _ | with_reducible exact set_byI _ _ _ _ | with_reducible exact set_inN _ _ _ _ | with_reducible exact set_inI _ _ _ _ | with_reducible exact set_stN _ _ _ _ | with_reducible exact set_tsN _ _ _ _ | with_reducible exact set_tsI _ _ _ _ | with_reducible exact set_boN _ _ _ _ | with_reducible exact set_boI _ _ _ _ | (with_reducible refine get_mapN _ _ _ ?_; first | omega | (simp; omega)) | (with_reducible refine get_mapI _ _ _ ?_ ?_ <;> first | omega | (simp; omega)) | exact bs_beq _ _ | exact bs_less _ _ | exact bs_leq _ _ | with_reducible exact bs_app _ _ | (refine bs_get _ _ ?_; omega) | (refine bs_int _ _ ?_ ?_ <;> omega) | with_reducible exact sl_map0 _ _ _ | with_reducible exact sl_mapN _ _ _ | with_reducible exact sl_map _ _ _ _ | exact bs_extract0 _ _ | exact bs_extractN _ _ | exact bs_extract _ _ _ | (refine bnd_id ?_; omega) | (refine bnd_sub ?_ ?_ <;> omega) | (refine bnd_add ?_; omega) | (refine bnd_subN ?_ ?_ <;> omega) | (refine bnd_int ?_ ?_ <;> omega) | ((show @Eq Nat (_ + Int.toNat _ * _) _); simp only [Int.toNat_natCast, Nat.zero_add, Nat.mul_one]; rfl) | ((show @Eq (List _) (List.set [_] _ _) _); simp only [List.set_cons_zero]; rfl) | exact List.length_map _ | exact size_bs _ | (simp only [List.length_map, List.length_append, List.length_cons, List.length_nil, List.length_replicate, Nat.zero_add]; rfl) | with_reducible exact List.nil_append _ | with_reducible exact map_app _ _ _ | exact map_snoc byD _ _ | exact map_snoc inD _ _ | exact map_snoc stD _ _ | exact map_snoc tsD _ _ | (simp only [chunks]; rfl) | (refine wid ?_ ?_ <;> omega) | exact wby _ | with_reducible exact wby32 _ | with_reducible exact wu32 _ | exact wby64 _ | exact shr8 _ | exact shr16 _ | exact shr24 _ | exact shr32 _ | (refine tmodn ?_; omega) | (refine wdiv ?_ ?_ ?_ <;> omega) | exact wbyte _ | exact natlit _ | exact rep_by _ | exact rep_in _ | exact rep_bo _ | exact rep_st _ | (refine pick_nat _ _ _ ?_; omega) | (refine pick_int _ _ _ ?_ ?_ <;> omega) | (refine SlOf.full ?_; first | (simp; done) | (simp; omega)) | (with_reducible refine SlOf.pre _ _ ?_; first | omega | (simp; omega)) | (refine SlF.self _ _ ?_ ?_; (first | rfl | omega | (simp; done) | (simp; omega)); (exact fun _ => rfl)) | (refine SlF.pre _ _ ?_ ?_; (first | omega | (simp; omega)); (exact fun _ => rfl)) | (refine SlF.same ?_ ?_; (first | rfl | omega | (simp; done) | (simp; omega)); (first | exact fz_self _ _ (fun _ => rfl) | exact fz_pl rfl | (refine Fz.append ?_ ?_ <;> first | exact fz_self _ _ (fun _ => rfl) | exact fz_pl rfl) | (refine Fz.append (Fz.append ?_ ?_) ?_ <;> first | exact fz_self _ _ (fun _ => rfl) | exact fz_pl rfl))) | (simp only [Int.toNat_natCast, Nat.zero_add, Nat.mul_one]; rfl) | ((show @Eq (Option CV) _ _); rfl) | ((fail_if_success (show @Eq (Option _) _ _)); rfl) | ((show @Eq (Option _) _ _); simp only [List.getElem?_cons_zero, List.getElem?_cons_succ]; done) | ((show @Eq (Option _) _ _); simp only [List.getElem?_cons_zero, List.getElem?_cons_succ]; rfl) | with_reducible rfl)); conv => whnf))); exact Done.mk trivial))); conv => whnf)
        refine Hand.mk [] ?_
        try (conv => whnf)
        refine CallW.d (i_StampLess o.atT o.atA o.time o.actor) ?_
        try (conv => whnf)
        try (conv => whnf)
        repeat' (first
         | (refine br_dec (fun _ => ?_) (fun _ => ?_) <;> first | contradiction | conv => whnf)
         | (refine br_not ?_; conv => whnf)
         | (refine br_bne (fun _ => ?_) (fun _ => ?_) <;> first | contradiction | conv => whnf)
         | (refine br_beq (fun _ => ?_) (fun _ => ?_) <;> first | contradiction | conv => whnf))
        refine Out.mk true [] [] ?_
        try (conv => whnf)
        exact ⟨dec_f (fun h => by
         obtain ⟨h1, h2, h3, h4, h5, h6, h7, h8, h9, h10⟩ := h
         first | contradiction | omega | (rcases h9 with h9 | ⟨h9, h9'⟩ <;> contradiction)), rfl⟩
      ·try (conv => whnf)
       refine Hand.mk [] ?_
       try (conv => whnf)
       refine CallW.d (i_StampOK o.atT o.atA) ?_
       try (conv => whnf)
       try (conv => whnf)
       repeat' (first
        | (refine Need.mk ?_ ?_; (focus (((conv => whnf); (repeat (first | (refine Need.mk (by first | rfl | omega | (simp; done)) ?_; conv => whnf) | (refine Pick.mk ?_ ?_ ?_; rotate_left; (focus (first | with_reducible exact xor_u8 _ _ | (with_reducible refine xor_i64 ?_ ?_; all_goals omega) | (with_reducible refine xor_u32 ?_ ?_; all_goals omega) | assumption | with_reducible exact set_byN _ _ _ _ | with_reducible exact set_byI _ _ _ _ | with_reducible exact set_inN _ _ _ _ | with_reducible exact set_inI _ _ _ _ | with_reducible exact set_stN _ _ _ _ | with_reducible exact set_tsN _ _ _ _ | with_reducible exact set_tsI _ _ _ _ | with_reducible exact set_boN _ _ _ _ | with_reducible exact set_boI _ _ _ _ | (with_reducible refine get_mapN _ _ _ ?_; first | omega | (simp; omega)) | (with_reducible refine get_mapI _ _ _ ?_ ?_ <;> first | omega | (simp; omega)) | exact bs_beq _ _ | exact bs_less _ _ | exact bs_leq _ _ | with_reducible exact bs_app _ _ | (refine bs_get _ _ ?_; omega) | (refine bs_int _ _ ?_ ?_ <;> omega) | with_reducible exact sl_map0 _ _ _ | with_reducible exact sl_mapN _ _ _ | with_reducible exact sl_map _ _ _ _ | exact bs_extract0 _ _ | exact bs_extractN _ _ | exact bs_extract _ _ _ | (refine bnd_id ?_; omega) | (refine bnd_sub ?_ ?_ <;> omega) | (refine bnd_add ?_; omega) | (refine bnd_subN ?_ ?_ <;> omega) | (refine bnd_int ?_ ?_ <;> omega) | ((show @Eq Nat (_ + Int.toNat _ * _) _); simp only [Int.toNat_natCast, Nat.zero_add, Nat.mul_one]; rfl) | ((show @Eq (List _) (List.set [_] _ _) _); simp only [List.set_cons_zero]; rfl) | exact List.length_map _ | exact size_bs _ | (simp only [List.length_map, List.length_append, List.length_cons, List.length_nil, List.length_replicate, Nat.zero_add]; rfl) | with_reducible exact List.nil_append _ | with_reducible exact map_app _ _ _ | exact map_snoc byD _ _ | exact map_snoc inD _ _ | exact map_snoc stD _ _ | exact map_snoc tsD _ _ | (simp only [chunks]; rfl) | (refine wid ?_ ?_ <;> omega) | exact wby _ | with_reducible exact wby32 _ | with_reducible exact wu32 _ | exact wby64 _ | exact shr8 _ | exact shr16 _ | exact shr24 _ | exact shr32 _ | (refine tmodn ?_; omega) | (refine wdiv ?_ ?_ ?_ <;> omega) | exact wbyte _ | exact natlit _ | exact rep_by _ | exact rep_in _ | exact rep_bo _ | exact rep_st _ | (refine pick_nat _ _ _ ?_; omega) | (refine pick_int _ _ _ ?_ ?_ <;> omega) | (refine SlOf.full ?_; first | (simp; done) | (simp; omega)) | (with_reducible refine SlOf.pre _ _ ?_; first | omega | (simp; omega)) | (refine SlF.self _ _ ?_ ?_; (first | rfl | omega | (simp; done) | (simp; omega)); (exact fun _ => rfl)) | (refine SlF.pre _ _ ?_ ?_; (first | omega | (simp; omega)); (exact fun _ => rfl)) | (refine SlF.same ?_ ?_; (first | rfl | omega | (simp; done) | (simp; omega)); (first | exact fz_self _ _ (fun _ => rfl) | exact fz_pl rfl | (refine Fz.append ?_ ?_ <;> first | exact fz_self _ _ (fun _ => rfl) | exact fz_pl rfl) | (refine Fz.append (Fz.append ?_ ?_) ?_ <;> first | exact fz_self _ _ (fun _ => rfl) | exact fz_pl rfl))) | (simp only [Int.toNat_natCast, Nat.zero_add, Nat.mul_one]; rfl) | ((show @Eq (Option CV) _ _); rfl) | ((fail_if_success (show @Eq (Option _) _ _)); rfl) | ((show @Eq (Option _) _ _); simp only [List.getElem?_cons_zero, List.getElem?_cons_succ]; done) | ((show @Eq (Option _) _ _); simp only [List.getElem?_cons_zero, List.getElem?_cons_succ]; rfl) | with_reducible rfl)); conv => whnf))); exact Done.mk trivial))); conv => whnf)
        | (refine br_dec (fun _ => ?_) (fun _ => ?_) <;> first | contradiction | conv => whnf)
        | (refine br_not ?_; conv => whnf)
        | (refine br_bne (fun _ => ?_) (fun _ => ?_) <;> first | contradiction | conv => whnf)
        | (refine br_beq (fun _ => ?_) (fun _ => ?_) <;> first | contradiction | conv => whnf))
       refine Out.mk true [] [] ?_
       try (conv => whnf)
       exact ⟨dec_f (fun h => by
        obtain ⟨h1, h2, h3, h4, h5, h6, h7, h8, h9, h10⟩ := h
        first | contradiction | omega | (rcases h9 with h9 | ⟨h9, h9'⟩ <;> contradiction)), rfl⟩
    all_goals
     refine Out.mk true [] [] ?_
     try (conv => whnf)
    all_goals
     exact ⟨dec_f (fun h => by
      obtain ⟨h1, h2, h3, h4, h5, h6, h7, h8, h9, h10⟩ := h
      first | contradiction | omega | (rcases h9 with h9 | ⟨h9, h9'⟩ <;> contradiction)), rfl⟩
   all_goals
    refine Out.mk true [] [] ?_
    try (conv => whnf)
   all_goals
    exact ⟨dec_f (fun h => by
     obtain ⟨h1, h2, h3, h4, h5, h6, h7, h8, h9, h10⟩ := h
     first | contradiction | omega | (rcases h9 with h9 | ⟨h9, h9'⟩ <;> contradiction)), rfl⟩
  ·try (conv => whnf)
   repeat' (first
    | (refine br_dec (fun _ => ?_) (fun _ => ?_) <;> first | (exfalso; omega) | contradiction | conv => whnf)
    | (refine br_not ?_; conv => whnf)
    | (refine br_bne (fun _ => ?_) (fun _ => ?_) <;> first | (exfalso; omega) | contradiction | conv => whnf)
    | (refine br_beq (fun _ => ?_) (fun _ => ?_) <;> first | (exfalso; omega) | contradiction | conv => whnf))
   rotate_left 2
   ·refine Hand.mk [] ?_
    try (conv => whnf)
    refine CallW.d (i_VecOK o.deps) ?_
    try (conv => whnf)
    try (conv => whnf)
    repeat' (first
     | (refine br_dec (fun _ => ?_) (fun _ => ?_) <;> first | (exfalso; omega) | contradiction | conv => whnf)
     | (refine br_not ?_; conv => whnf)
     | (refine br_bne (fun _ => ?_) (fun _ => ?_) <;> first | (exfalso; omega) | contradiction | conv => whnf)
     | (refine br_beq (fun _ => ?_) (fun _ => ?_) <;> first | (exfalso; omega) | contradiction | conv => whnf))
    refine Out.mk true [] [] ?_
    try (conv => whnf)
    exact ⟨dec_f (fun h => by
     obtain ⟨h1, h2, h3, h4, h5, h6, h7, h8, h9, h10⟩ := h
     first | contradiction | omega | (rcases h9 with h9 | ⟨h9, h9'⟩ <;> contradiction)), rfl⟩
   all_goals
    refine Out.mk true [] [] ?_
    try (conv => whnf)
   all_goals
    exact ⟨dec_f (fun h => by
     obtain ⟨h1, h2, h3, h4, h5, h6, h7, h8, h9, h10⟩ := h
     first | contradiction | omega | (rcases h9 with h9 | ⟨h9, h9'⟩ <;> contradiction)), rfl⟩
 ·try (conv => whnf)
  repeat' (first
   | (refine br_dec (fun _ => ?_) (fun _ => ?_) <;> first | (exfalso; omega) | contradiction | conv => whnf)
   | (refine br_not ?_; conv => whnf)
   | (refine br_bne (fun _ => ?_) (fun _ => ?_) <;> first | (exfalso; omega) | contradiction | conv => whnf)
   | (refine br_beq (fun _ => ?_) (fun _ => ?_) <;> first | (exfalso; omega) | contradiction | conv => whnf))
  refine Out.mk true [] [] ?_
  try (conv => whnf)
  exact ⟨dec_f (fun h => by
   obtain ⟨h1, h2, h3, h4, h5, h6, h7, h8, h9, h10⟩ := h
   first | contradiction | omega | (rcases h9 with h9 | ⟨h9, h9'⟩ <;> contradiction)), rfl⟩
theorem s_l08OpOK (o : OpV) (hk : o.key.length ≤ 2 ^ 40) (ht : o.text.length ≤ 2 ^ 40) : CallD Try.prog id_spec_l08OpOK [vO o] [] (vB (decide (OpOk o))) [] := by
 refine F_spec_l08OpOK ?_
 try (conv => whnf)
 refine Hand.mk [] ?_
 try (conv => whnf)
 refine CallW.d (s_l08Stamp o) ?_
 try (conv => whnf)
 repeat (refine SeqJ.thru ?_; conv => whnf)
 refine Hand.mk [] ?_
 try (conv => whnf)
 refine CallW.d (s_StampOK o.time o.actor) ?_
 try (conv => whnf)
 by_cases hst : stOk o.time o.actor
 ·obtain ⟨⟨t1, t2⟩, a1, a2⟩ := id hst
  by_cases hv : VecOk o.deps
  ·have hvl := hv.1
   obtain ⟨hlt, hown⟩ := own_at hv ⟨a1, a2⟩
   try (conv => whnf)
   repeat' (first
    | (refine br_dec (fun _ => ?_) (fun _ => ?_) <;> first | (exfalso; omega) | contradiction | conv => whnf)
    | (refine br_not ?_; conv => whnf)
    | (refine br_bne (fun _ => ?_) (fun _ => ?_) <;> first | (exfalso; omega) | contradiction | conv => whnf)
    | (refine br_beq (fun _ => ?_) (fun _ => ?_) <;> first | (exfalso; omega) | contradiction | conv => whnf))
   rotate_left 2
   ·refine Hand.mk [] ?_
    try (conv => whnf)
    refine CallW.d (s_VecOK o.deps) ?_
    try (conv => whnf)
    try (conv => whnf)
    repeat' (first
     | (refine Pick.mk ?_ ?_ ?_; rotate_left; (focus (first | exact size_bs _ | (refine wid ?_ ?_ <;> omega) | (refine pick_int _ _ _ ?_ ?_ <;> omega))); conv => whnf)
     | (refine SeqJ.thru ?_; conv => whnf)
     | (refine br_dec (fun _ => ?_) (fun _ => ?_) <;> first | (exfalso; omega) | contradiction | conv => whnf)
     | (refine br_not ?_; conv => whnf)
     | (refine br_bne (fun _ => ?_) (fun _ => ?_) <;> first | (exfalso; omega) | contradiction | conv => whnf)
     | (refine br_beq (fun _ => ?_) (fun _ => ?_) <;> first | (exfalso; omega) | contradiction | conv => whnf))
    all_goals
     first
      |skip
       refine Out.mk true [] [] ?_
       try (conv => whnf)
       exact ⟨dec_f (fun h => by
        obtain ⟨h1, h2, h3, h4, h5, h6, h7, h8, h9, h10⟩ := h
        first | contradiction | omega | (rcases h9 with h9 | ⟨h9, h9'⟩ <;> contradiction)), rfl⟩
      | skip
    by_cases hz : noSt o.atT o.atA
    ·refine Hand.mk [] ?_
     try (conv => whnf)
     refine CallW.d (s_l02None o.atT o.atA) ?_
     try (conv => whnf)
     have hP : kindOk o → OpOk o := fun hk => ⟨hst, by omega, hv, by omega, by omega, by omega, by omega, by omega, .inl hz, hk⟩
     have hN : ¬ kindOk o → ¬ OpOk o := fun h g => h g.kind
     try (conv => whnf)
     repeat' (first
      | (refine Pick.mk ?_ ?_ ?_; rotate_left; (focus (exact bs_beq _ _)); conv => whnf)
      | (refine br_dec (fun _ => ?_) (fun _ => ?_) <;> first | contradiction | conv => whnf)
      | (refine br_not ?_; conv => whnf)
      | (refine br_bne (fun _ => ?_) (fun _ => ?_) <;> first | contradiction | conv => whnf)
      | (refine br_beq (fun _ => ?_) (fun _ => ?_) <;> first | contradiction | conv => whnf))
     all_goals
      first
       |skip
        refine Out.mk true [] [] ?_
        try (conv => whnf)
        first
         | exact ⟨dec_t (hP (by first | exact .inl ⟨by assumption, by assumption, hz⟩ | exact .inr (.inr (.inl ⟨by assumption, ⟨by assumption, by assumption⟩, by assumption, hz⟩)) | exact .inr (.inr (.inr ⟨by assumption, ⟨by assumption, by assumption⟩, hz⟩)))), rfl⟩
         | exact ⟨dec_f (hN (by rintro (⟨k1, k2, k3⟩ | ⟨k1, ⟨k2, k4⟩, k3⟩ | ⟨k1, ⟨k2, k4⟩, k3, k5⟩ | ⟨k1, ⟨k2, k4⟩, k3⟩) <;> first | contradiction | omega)), rfl⟩
       |skip
        refine Hand.mk [] ?_
        try (conv => whnf)
        refine CallW.d (s_l04Char o.n) ?_
        try (conv => whnf)
        refine Out.mk true [] [] ?_
        try (conv => whnf)
        exact ⟨dec_b ⟨fun h => hP (.inr (.inl ⟨by assumption, ⟨by assumption, by assumption⟩, h⟩)), fun h => by
         rcases h.kind with ⟨k1, k2, k3⟩ | ⟨k1, ⟨k2, k4⟩, k3⟩ | ⟨k1, ⟨k2, k4⟩, k3, k5⟩ | ⟨k1, ⟨k2, k4⟩, k3⟩ <;> first | exact k3 | omega⟩, rfl⟩
       |skip
        refine Hand.mk [] ?_
        try (conv => whnf)
        refine CallW.d (s_l02None o.atT o.atA) ?_
        try (conv => whnf)
        refine Out.mk true [] [] ?_
        try (conv => whnf)
        first
         | rw [show (!decide (noSt o.atT o.atA)) = false from by rw [decide_eq_true hz]; rfl]
         | rw [show (!decide (noSt o.atT o.atA)) = true from by rw [decide_eq_false hz]; rfl]
         | rw [show decide (noSt o.atT o.atA) = true from decide_eq_true hz]
         | rw [show decide (noSt o.atT o.atA) = false from decide_eq_false hz]
        first
         | exact ⟨dec_t (hP (by first | exact .inl ⟨by assumption, by assumption, hz⟩ | exact .inr (.inr (.inl ⟨by assumption, ⟨by assumption, by assumption⟩, by assumption, hz⟩)) | exact .inr (.inr (.inr ⟨by assumption, ⟨by assumption, by assumption⟩, hz⟩)))), rfl⟩
         | exact ⟨dec_f (hN (by rintro (⟨k1, k2, k3⟩ | ⟨k1, ⟨k2, k4⟩, k3⟩ | ⟨k1, ⟨k2, k4⟩, k3, k5⟩ | ⟨k1, ⟨k2, k4⟩, k3⟩) <;> first | contradiction | omega)), rfl⟩
    ·by_cases hs2 : stOk o.atT o.atA
     ·by_cases hsl : stLt o.atT o.atA o.time o.actor
      ·refine Hand.mk [] ?_
       try (conv => whnf)
       refine CallW.d (s_l02None o.atT o.atA) ?_
       try (conv => whnf)
       try (conv => whnf)
       repeat' (first
        | (refine br_dec (fun _ => ?_) (fun _ => ?_) <;> first | contradiction | conv => whnf)
        | (refine br_not ?_; conv => whnf)
        | (refine br_bne (fun _ => ?_) (fun _ => ?_) <;> first | contradiction | conv => whnf)
        | (refine br_beq (fun _ => ?_) (fun _ => ?_) <;> first | contradiction | conv => whnf))
       refine Hand.mk [] ?_
       try (conv => whnf)
       refine CallW.d (s_StampOK o.atT o.atA) ?_
       try (conv => whnf)
       try (conv => whnf)
       repeat' (first
        | (refine br_dec (fun _ => ?_) (fun _ => ?_) <;> first | contradiction | conv => whnf)
        | (refine br_not ?_; conv => whnf)
        | (refine br_bne (fun _ => ?_) (fun _ => ?_) <;> first | contradiction | conv => whnf)
        | (refine br_beq (fun _ => ?_) (fun _ => ?_) <;> first | contradiction | conv => whnf))
       refine Hand.mk [] ?_
       try (conv => whnf)
       refine CallW.d (s_StampLess o.atT o.atA o.time o.actor) ?_
       try (conv => whnf)
       have hP : kindOk o → OpOk o := fun hk => ⟨hst, by omega, hv, by omega, by omega, by omega, by omega, by omega, .inr ⟨hs2, hsl⟩, hk⟩
       have hN : ¬ kindOk o → ¬ OpOk o := fun h g => h g.kind
       try (conv => whnf)
       repeat' (first
        | (refine Pick.mk ?_ ?_ ?_; rotate_left; (focus (exact bs_beq _ _)); conv => whnf)
        | (refine br_dec (fun _ => ?_) (fun _ => ?_) <;> first | contradiction | conv => whnf)
        | (refine br_not ?_; conv => whnf)
        | (refine br_bne (fun _ => ?_) (fun _ => ?_) <;> first | contradiction | conv => whnf)
        | (refine br_beq (fun _ => ?_) (fun _ => ?_) <;> first | contradiction | conv => whnf))
       all_goals
        first
         |skip
          refine Out.mk true [] [] ?_
          try (conv => whnf)
          first
           | exact ⟨dec_t (hP (by first | exact .inl ⟨by assumption, by assumption, hz⟩ | exact .inr (.inr (.inl ⟨by assumption, ⟨by assumption, by assumption⟩, by assumption, hz⟩)) | exact .inr (.inr (.inr ⟨by assumption, ⟨by assumption, by assumption⟩, hz⟩)))), rfl⟩
           | exact ⟨dec_f (hN (by rintro (⟨k1, k2, k3⟩ | ⟨k1, ⟨k2, k4⟩, k3⟩ | ⟨k1, ⟨k2, k4⟩, k3, k5⟩ | ⟨k1, ⟨k2, k4⟩, k3⟩) <;> first | contradiction | omega)), rfl⟩
         |skip
          refine Hand.mk [] ?_
          try (conv => whnf)
          refine CallW.d (s_l04Char o.n) ?_
          try (conv => whnf)
          refine Out.mk true [] [] ?_
          try (conv => whnf)
          exact ⟨dec_b ⟨fun h => hP (.inr (.inl ⟨by assumption, ⟨by assumption, by assumption⟩, h⟩)), fun h => by
           rcases h.kind with ⟨k1, k2, k3⟩ | ⟨k1, ⟨k2, k4⟩, k3⟩ | ⟨k1, ⟨k2, k4⟩, k3, k5⟩ | ⟨k1, ⟨k2, k4⟩, k3⟩ <;> first | exact k3 | omega⟩, rfl⟩
         |skip
          refine Hand.mk [] ?_
          try (conv => whnf)
          refine CallW.d (s_l02None o.atT o.atA) ?_
          try (conv => whnf)
          refine Out.mk true [] [] ?_
          try (conv => whnf)
          first
           | rw [show (!decide (noSt o.atT o.atA)) = false from by rw [decide_eq_true hz]; rfl]
           | rw [show (!decide (noSt o.atT o.atA)) = true from by rw [decide_eq_false hz]; rfl]
           | rw [show decide (noSt o.atT o.atA) = true from decide_eq_true hz]
           | rw [show decide (noSt o.atT o.atA) = false from decide_eq_false hz]
          first
           | exact ⟨dec_t (hP (by first | exact .inl ⟨by assumption, by assumption, hz⟩ | exact .inr (.inr (.inl ⟨by assumption, ⟨by assumption, by assumption⟩, by assumption, hz⟩)) | exact .inr (.inr (.inr ⟨by assumption, ⟨by assumption, by assumption⟩, hz⟩)))), rfl⟩
           | exact ⟨dec_f (hN (by rintro (⟨k1, k2, k3⟩ | ⟨k1, ⟨k2, k4⟩, k3⟩ | ⟨k1, ⟨k2, k4⟩, k3, k5⟩ | ⟨k1, ⟨k2, k4⟩, k3⟩) <;> first | contradiction | omega)), rfl⟩
      ·refine Hand.mk [] ?_
       try (conv => whnf)
       refine CallW.d (s_l02None o.atT o.atA) ?_
       try (conv => whnf)
       try (conv => whnf)
       repeat' (first
        | (refine br_dec (fun _ => ?_) (fun _ => ?_) <;> first | contradiction | conv => whnf)
        | (refine br_not ?_; conv => whnf)
        | (refine br_bne (fun _ => ?_) (fun _ => ?_) <;> first | contradiction | conv => whnf)
        | (refine br_beq (fun _ => ?_) (fun _ => ?_) <;> first | contradiction | conv => whnf))
       refine Hand.mk [] ?_
       try (conv => whnf)
       refine CallW.d (s_StampOK o.atT o.atA) ?_
       try (conv => whnf)
       try (conv => whnf)
       repeat' (first
        | (refine br_dec (fun _ => ?_) (fun _ => ?_) <;> first | contradiction | conv => whnf)
        | (refine br_not ?_; conv => whnf)
        | (refine br_bne (fun _ => ?_) (fun _ => ?_) <;> first | contradiction | conv => whnf)
        | (refine br_beq (fun _ => ?_) (fun _ => ?_) <;> first | contradiction | conv => whnf))
       refine Hand.mk [] ?_
       try (conv => whnf)
       refine CallW.d (s_StampLess o.atT o.atA o.time o.actor) ?_
       try (conv => whnf)
       try (conv => whnf)
       repeat' (first
        | (refine br_dec (fun _ => ?_) (fun _ => ?_) <;> first | contradiction | conv => whnf)
        | (refine br_not ?_; conv => whnf)
        | (refine br_bne (fun _ => ?_) (fun _ => ?_) <;> first | contradiction | conv => whnf)
        | (refine br_beq (fun _ => ?_) (fun _ => ?_) <;> first | contradiction | conv => whnf))
       refine Out.mk true [] [] ?_
       try (conv => whnf)
       exact ⟨dec_f (fun h => by
        obtain ⟨h1, h2, h3, h4, h5, h6, h7, h8, h9, h10⟩ := h
        first | contradiction | omega | (rcases h9 with h9 | ⟨h9, h9'⟩ <;> contradiction)), rfl⟩
     ·refine Hand.mk [] ?_
      try (conv => whnf)
      refine CallW.d (s_l02None o.atT o.atA) ?_
      try (conv => whnf)
      try (conv => whnf)
      repeat' (first
       | (refine br_dec (fun _ => ?_) (fun _ => ?_) <;> first | contradiction | conv => whnf)
       | (refine br_not ?_; conv => whnf)
       | (refine br_bne (fun _ => ?_) (fun _ => ?_) <;> first | contradiction | conv => whnf)
       | (refine br_beq (fun _ => ?_) (fun _ => ?_) <;> first | contradiction | conv => whnf))
      refine Hand.mk [] ?_
      try (conv => whnf)
      refine CallW.d (s_StampOK o.atT o.atA) ?_
      try (conv => whnf)
      try (conv => whnf)
      repeat' (first
       | (refine br_dec (fun _ => ?_) (fun _ => ?_) <;> first | contradiction | conv => whnf)
       | (refine br_not ?_; conv => whnf)
       | (refine br_bne (fun _ => ?_) (fun _ => ?_) <;> first | contradiction | conv => whnf)
       | (refine br_beq (fun _ => ?_) (fun _ => ?_) <;> first | contradiction | conv => whnf))
      refine Out.mk true [] [] ?_
      try (conv => whnf)
      exact ⟨dec_f (fun h => by
       obtain ⟨h1, h2, h3, h4, h5, h6, h7, h8, h9, h10⟩ := h
       first | contradiction | omega | (rcases h9 with h9 | ⟨h9, h9'⟩ <;> contradiction)), rfl⟩
   all_goals
    refine Out.mk true [] [] ?_
    try (conv => whnf)
   all_goals
    exact ⟨dec_f (fun h => by
     obtain ⟨h1, h2, h3, h4, h5, h6, h7, h8, h9, h10⟩ := h
     first | contradiction | omega | (rcases h9 with h9 | ⟨h9, h9'⟩ <;> contradiction)), rfl⟩
  ·try (conv => whnf)
   repeat' (first
    | (refine br_dec (fun _ => ?_) (fun _ => ?_) <;> first | (exfalso; omega) | contradiction | conv => whnf)
    | (refine br_not ?_; conv => whnf)
    | (refine br_bne (fun _ => ?_) (fun _ => ?_) <;> first | (exfalso; omega) | contradiction | conv => whnf)
    | (refine br_beq (fun _ => ?_) (fun _ => ?_) <;> first | (exfalso; omega) | contradiction | conv => whnf))
   rotate_left 2
   ·refine Hand.mk [] ?_
    try (conv => whnf)
    refine CallW.d (s_VecOK o.deps) ?_
    try (conv => whnf)
    try (conv => whnf)
    repeat' (first
     | (refine br_dec (fun _ => ?_) (fun _ => ?_) <;> first | (exfalso; omega) | contradiction | conv => whnf)
     | (refine br_not ?_; conv => whnf)
     | (refine br_bne (fun _ => ?_) (fun _ => ?_) <;> first | (exfalso; omega) | contradiction | conv => whnf)
     | (refine br_beq (fun _ => ?_) (fun _ => ?_) <;> first | (exfalso; omega) | contradiction | conv => whnf))
    refine Out.mk true [] [] ?_
    try (conv => whnf)
    exact ⟨dec_f (fun h => by
     obtain ⟨h1, h2, h3, h4, h5, h6, h7, h8, h9, h10⟩ := h
     first | contradiction | omega | (rcases h9 with h9 | ⟨h9, h9'⟩ <;> contradiction)), rfl⟩
   all_goals
    refine Out.mk true [] [] ?_
    try (conv => whnf)
   all_goals
    exact ⟨dec_f (fun h => by
     obtain ⟨h1, h2, h3, h4, h5, h6, h7, h8, h9, h10⟩ := h
     first | contradiction | omega | (rcases h9 with h9 | ⟨h9, h9'⟩ <;> contradiction)), rfl⟩
 ·try (conv => whnf)
  repeat' (first
   | (refine br_dec (fun _ => ?_) (fun _ => ?_) <;> first | (exfalso; omega) | contradiction | conv => whnf)
   | (refine br_not ?_; conv => whnf)
   | (refine br_bne (fun _ => ?_) (fun _ => ?_) <;> first | (exfalso; omega) | contradiction | conv => whnf)
   | (refine br_beq (fun _ => ?_) (fun _ => ?_) <;> first | (exfalso; omega) | contradiction | conv => whnf))
  refine Out.mk true [] [] ?_
  try (conv => whnf)
  exact ⟨dec_f (fun h => by
   obtain ⟨h1, h2, h3, h4, h5, h6, h7, h8, h9, h10⟩ := h
   first | contradiction | omega | (rcases h9 with h9 | ⟨h9, h9'⟩ <;> contradiction)), rfl⟩
end Go.Proofs.Ytpdjehnlejjfmaa.D
/- The sums of bytes under a key, by the reference: what each function gives back. -/
namespace Go.Proofs.Ytpdjehnlejjfmaa.D
open Go.RowKit
set_option maxRecDepth 100000
set_option linter.unusedVariables false
set_option linter.unusedSimpArgs false

def four (v : Int) : List UInt8 := [u8 (v / 16777216), u8 (v / 65536), u8 (v / 256), u8 v]
@[simp] theorem four_length (v : Int) : (four v).length = 4 := rfl
def stepH (h : Nat) (c : UInt8) : Nat := (h ^^^ c.toNat) * 16777619 % 4294967296
def sumH (h : Nat) (l : List UInt8) : Nat := l.foldl stepH h
theorem sumH_lt {h : Nat} (hh : h < 4294967296) : ∀ l : List UInt8, sumH h l < 4294967296 := by
 intro l
 induction l generalizing h with
 | nil => exact hh
 | cons c l ih => exact ih (Nat.mod_lt _ (by omega))

theorem s_l01Four (v : Int) (h0 : 0 ≤ v) (h1 : v < 2 ^ 62) : CallD Try.prog id_spec_l01Four [vI .i64 v] [] (.one (.os (.v 0) 1 0 4)) [.own 1 ((four v).map byD)] := by
 refine F_spec_l01Four ?_
 try (conv => whnf)
 repeat (first
  | (refine Need.mk ?_ ?_; (focus (omega)); conv => whnf)
  | (refine Pick.mk ?_ ?_ ?_; rotate_left; (focus (first | (simp only [chunks]; rfl) | (refine tmodn ?_; omega) | (refine wdiv ?_ ?_ ?_ <;> omega) | exact wbyte _)); conv => whnf))
 refine Out.mk false [0, 1, 2, 3, 4] [] ?_
 try (conv => whnf)
 repeat (refine Need.mk ?_ ?_; (focus ((first | exact flat_by _ | exact flat_in _ | exact flat_st _ | exact flat_ts _ | exact flat_bo _ | exact flat_cl rfl))); conv => whnf)
 exact ⟨rfl, by simp [chunks, four, u8_mod]⟩
def eight (n : Int) : List UInt8 := four (n / 4294967296) ++ four (n % 4294967296)
@[simp] theorem eight_length (v : Int) : (eight v).length = 8 := rfl
theorem sumH_take {h : Nat} {l : List UInt8} {i : Nat} (hi : i < l.length) : sumH h (l.take (i + 1)) = stepH (sumH h (l.take i)) l[i] := by
 unfold sumH; rw [List.take_succ_eq_append_getElem hi, List.foldl_append, List.foldl_cons, List.foldl_nil]
theorem s_Sum32 (l : List UInt8) (hl : l.length ≤ 1048576) : CallD Try.prog id_spec_Sum32 [vY l] [] (vI .i64 (sumH 2166136261 l)) [] := by
 refine F_spec_Sum32 ?_
 try (conv => whnf)
 repeat (first
  | (refine Pick.mk ?_ ?_ ?_; rotate_left; (focus (exact List.length_map _)); conv => whnf)
  | (refine SeqJ.thru ?_; conv => whnf))
 refine br_false (decide_eq_false (by simp; omega)) ?_
 try (conv => whnf)
 refine LoopE.mk (fun i : Nat => mk [(0, vY l), (3, vI .i64 (sumH 2166136261 (l.take i))), (4, vI .i64 i)] []) (fun i => i ≤ l.length) (fun i => l.length - i) 0 (by omega) (LeX.of ?_) ?_
 ·try (conv => whnf)
  repeat (refine Need.mk ?_ ?_; (focus (first | omega | (simp; done) | rfl)); conv => whnf)
  trivial
 ·intro i hi
  try (conv => whnf)
  repeat (first
   | (refine Pick.mk ?_ ?_ ?_; rotate_left; (focus (exact List.length_map _)); conv => whnf)
   | (refine SeqJ.thru ?_; conv => whnf))
  refine br_dec (fun h => ?_) (fun h => ?_)
  ·simp at h
   have h1 := sumH_lt (h := 2166136261) (by omega) (l.take i)
   have h2 := l[i].toNat_lt
   have h3 : sumH 2166136261 (l.take i) ^^^ l[i].toNat < 2 ^ 32 := Nat.xor_lt_two_pow (by omega) (by omega)
   try (conv => whnf)
   repeat (first
    | (refine Need.mk ?_ ?_; (focus (omega)); conv => whnf)
    | (refine Pick.mk ?_ ?_ ?_; rotate_left; (focus (first | (with_reducible refine xor_i64 ?_ ?_; all_goals omega) | (refine wid ?_ ?_ <;> omega) | (refine tmodn ?_; omega) | (refine pick_nat _ _ _ ?_; omega))); conv => whnf)
    | (refine SeqJ.thru ?_; conv => whnf))
   refine Pick.mk (i + 1) (by omega) (LeX.of ?_)
   have h4 := sumH_take (h := 2166136261) h
   simp only [stepH] at h4
   try (conv => whnf)
   repeat (refine Need.mk ?_ ?_; (focus (first | omega | (simp; done))); conv => whnf)
   trivial
  ·simp at h
   try (conv => whnf)
   refine Out.mk true [] [] ?_
   try (conv => whnf)
   rw [List.take_of_length_le (by omega)]
   exact ⟨rfl, rfl⟩
def ksum (key b : List UInt8) : List UInt8 := four (sumH 2166136261 (key ++ b ++ key)) ++ four (sumH 2166136261 (four (sumH 2166136261 (key ++ b ++ key)) ++ key ++ b))
@[simp] theorem ksum_length (key b : List UInt8) : (ksum key b).length = 8 := rfl
def blk (key : List UInt8) (n i : Int) : List UInt8 := ksum key (eight n ++ eight i)
def mask (key : List UInt8) (n : Int) (l : List UInt8) : List UInt8 := l.mapIdx fun i c => c ^^^ (blk key n (i / 8 : Nat)).getD (i % 8) 0
@[simp] theorem mask_length (key : List UInt8) (n : Int) (l : List UInt8) : (mask key n l).length = l.length := by simp [mask]
end Go.Proofs.Ytpdjehnlejjfmaa.D
/- The sums of bytes under a key, by the program: what each function gives back. -/
namespace Go.Proofs.Ytpdjehnlejjfmaa.D
open Go.RowKit
set_option maxRecDepth 100000
set_option linter.unusedVariables false
set_option linter.unusedSimpArgs false

theorem i_append4_nil (v : Int) (h0 : 0 ≤ v) (h1 : v < 2 ^ 62) : CallD Try.prog id_impl_append4 [.one .nil, vI .i64 v] [] (.one (.os (.v 0) 1 0 4)) [.own 1 ((four v).map byD)] := by
 refine F_impl_append4 ?_
 try (conv => whnf)
 repeat (first
  | (refine Need.mk ?_ ?_; (focus (first | omega | rfl)); conv => whnf)
  | (refine Pick.mk ?_ ?_ ?_; rotate_left; (focus (first | (simp only [List.length_map, List.length_append, List.length_cons, List.length_nil, List.length_replicate, Nat.zero_add]; rfl) | (simp only [chunks]; rfl) | exact shr8 _ | exact shr16 _ | exact shr24 _ | exact wbyte _ | (refine SlOf.full ?_; first | (simp; done) | (simp; omega)))); conv => whnf))
 refine Out.mk false [0, 1, 2, 3, 4] [] ?_
 try (conv => whnf)
 repeat (refine Need.mk ?_ ?_; (focus ((first | exact flat_by _ | exact flat_in _ | exact flat_st _ | exact flat_ts _ | exact flat_bo _ | exact flat_cl rfl))); conv => whnf)
 exact ⟨rfl, by simp [four]⟩
theorem i_sumOn (h : Nat) (l : List UInt8) (hh : h < 4294967296) (hl : l.length ≤ 2 ^ 40) : CallD Try.prog id_impl_sumOn [vI .u32 h, vY l] [] (vI .u32 (sumH h l)) [] := by
 refine F_impl_sumOn ?_
 try (conv => whnf)
 repeat (refine Pick.mk ?_ ?_ ?_; rotate_left; (focus (exact List.length_map _)); conv => whnf)
 refine LoopE.mk (fun i : Nat => mk [(7, vY l), (8, vI .i64 l.length), (0, vI .u32 (sumH h (l.take i))), (9, vI .i64 i)] []) (fun i => i ≤ l.length) (fun i => l.length - i) 0 (by omega) (LeX.of ?_) ?_
 ·try (conv => whnf)
  repeat (refine Need.mk ?_ ?_; (focus (first | omega | (simp; done) | rfl)); conv => whnf)
  trivial
 ·intro i hi
  try (conv => whnf)
  repeat (refine SeqJ.thru ?_; conv => whnf)
  refine br_dec (fun h9 => ?_) (fun h9 => ?_)
  ·simp at h9
   have h1 := sumH_lt hh (l.take i)
   have h2 := l[i].toNat_lt
   have h3 : sumH h (l.take i) ^^^ l[i].toNat < 2 ^ 32 := Nat.xor_lt_two_pow (by omega) (by omega)
   try (conv => whnf)
   repeat (first
    | (refine Pick.mk ?_ ?_ ?_; rotate_left; (focus (first | (with_reducible refine xor_u32 ?_ ?_; all_goals omega) | (refine wid ?_ ?_ <;> omega) | with_reducible exact wby32 _ | with_reducible exact wu32 _ | (refine pick_nat _ _ _ ?_; omega))); conv => whnf)
    | (refine SeqJ.thru ?_; conv => whnf))
   have h4 := sumH_take (h := h) h9
   simp only [stepH] at h4
   refine Pick.mk (i + 1) (by constructor <;> first | omega | (simp only []; omega)) (LeX.of ?_)
   try (conv => whnf)
   repeat (refine Need.mk ?_ ?_; (focus (first | omega | (simp; done))); conv => whnf)
   trivial
  ·simp at h9
   try (conv => whnf)
   refine Out.mk true [] [] ?_
   try (conv => whnf)
   rw [List.take_of_length_le (by omega)]
   exact ⟨rfl, rfl⟩
end Go.Proofs.Ytpdjehnlejjfmaa.D
/- Numbers and texts as bytes: what the functions of both give back. -/
namespace Go.Proofs.Ytpdjehnlejjfmaa.D
open Go.RowKit
set_option maxRecDepth 100000
set_option linter.unusedVariables false
set_option linter.unusedSimpArgs false

theorem divN (v k : Nat) : (v : Int) / (@OfNat.ofNat Int k instOfNat) = ((v / k : Nat) : Int) := by
 show (v : Int) / ((k : Nat) : Int) = _
 omega
theorem s_l01Put : ∀ v : Nat, v < 2 ^ 63 → CallD Try.prog id_spec_l01Put [vI .i64 v] [] (.one (.os (.v 0) 1 0 (put v).length)) [.own 1 ((put v).map byD)] := by
 intro v
 induction v using Nat.strongRecOn with
 | _ v ih =>
  intro hv
  have hl := put_len hv
  refine F_spec_l01Put ?_
  try (conv => whnf)
  repeat' (first
   | (refine Need.mk ?_ ?_; (focus (omega)); conv => whnf)
   | (refine Pick.mk ?_ ?_ ?_; rotate_left; (focus (first | (simp only [chunks]; rfl) | (refine wid ?_ ?_ <;> omega) | (refine tmodn ?_; omega) | (refine wdiv ?_ ?_ ?_ <;> omega) | exact wbyte _)); conv => whnf)
   | (refine SeqJ.thru ?_; conv => whnf)
   | (refine br_dec (fun _ => ?_) (fun _ => ?_) <;> first | (exfalso; omega) | contradiction | conv => whnf)
   | (refine br_not ?_; conv => whnf)
   | (refine br_bne (fun _ => ?_) (fun _ => ?_) <;> first | (exfalso; omega) | contradiction | conv => whnf)
   | (refine br_beq (fun _ => ?_) (fun _ => ?_) <;> first | (exfalso; omega) | contradiction | conv => whnf))
  ·refine Out.mk false [0, 1, 2, 3, 4] [] ?_
   try (conv => whnf)
   repeat (refine Need.mk ?_ ?_; (focus ((first | exact flat_by _ | exact flat_in _ | exact flat_st _ | exact flat_ts _ | exact flat_bo _ | exact flat_cl rfl))); conv => whnf)
   rw [put_lt (by omega)]
   exact ⟨rfl, rfl⟩
  ·have hl' := put_len (n := v / 128) (by omega)
   rw [divN]
   refine Hand.mk [] ?_
   try (conv => whnf)
   refine CallW.d (ih (v / 128) (by omega) (by omega)) ?_
   try (conv => whnf)
   repeat (first
    | (refine Need.mk ?_ ?_; (focus (first | omega | (first | exact fz_self _ _ (fun _ => rfl) | exact fz_pl rfl | (refine Fz.append ?_ ?_ <;> first | exact fz_self _ _ (fun _ => rfl) | exact fz_pl rfl) | (refine Fz.append (Fz.append ?_ ?_) ?_ <;> first | exact fz_self _ _ (fun _ => rfl) | exact fz_pl rfl)))); conv => whnf)
    | (refine Pick.mk ?_ ?_ ?_; rotate_left; (focus (first | (simp only [List.length_map, List.length_append, List.length_cons, List.length_nil, List.length_replicate, Nat.zero_add]; rfl) | (refine SlOf.full ?_; first | (simp; done) | (simp; omega)) | ((fail_if_success (show @Eq (Option _) _ _)); rfl))); conv => whnf))
   refine Out.mk false [0, 1, 2, 3, 4] [] ?_
   try (conv => whnf)
   repeat (refine Need.mk ?_ ?_; (focus ((refine flat_app ?_ ?_ <;> (first | exact flat_by _ | exact flat_in _ | exact flat_st _ | exact flat_ts _ | exact flat_bo _ | exact flat_cl rfl)))); conv => whnf)
   rw [put_ge (by omega)]
   have e : (128 : Int) + (v : Int) % 128 = ((128 + v % 128 : Nat) : Int) := by omega
   rw [e]
   exact ⟨by simp; omega, by simp⟩
theorem or_u8 (a : Nat) (h : a < 128) : bits .or .u8 ((u8 (a : Int)).toNat : Int) 128 = ((u8 ((128 + a : Nat) : Int)).toNat : Int) := by
 rw [u8_nat (by omega), u8_nat (by omega)]
 show IntKind.u8.wrap (((BitVec.ofInt 8 (a : Int) ||| BitVec.ofInt 8 ((128 : Nat) : Int)).toNat : Nat) : Int) = _
 rw [bv_or 8 (by omega) (by omega), wu8]
 have : a ||| 128 = 128 + a := by
  have := Nat.shiftLeft_add_eq_or_of_lt (show a < 2 ^ 7 by omega) 1
  rw [Nat.or_comm]; simpa using this.symm
 rw [this]; omega
theorem and127 (v : Nat) (h : v < 2 ^ 63) : bits .and .i64 (v : Int) 127 = ((v % 128 : Nat) : Int) := by
 have := and_i64 (a := v) (b := 127) (by omega) (by omega)
 have e : v &&& 127 = v % 128 := Nat.and_two_pow_sub_one_eq_mod v 7
 rw [e] at this; exact this
theorem shr7 (v : Nat) : (v : Int).fdiv (2 ^ (min (7 : Int).toNat (IntKind.i64).bits)) = ((v / 128 : Nat) : Int) := by
 show (v : Int).fdiv 128 = _
 rw [Int.fdiv_eq_ediv_of_nonneg _ (by omega)]; omega
theorem put_shift (v : Nat) (h : 128 ≤ v) (l : List UInt8) : l ++ [u8 ((128 + v % 128 : Nat) : Int)] ++ put (v / 128) = l ++ put v := by
 rw [put_ge h]; simp
theorem i_appendInt (a : List UInt8) (n : Nat) (v : Nat) (hn : n = a.length) (ha : n ≤ 2 ^ 46) (hv : v < 2 ^ 63) :
  CallMD Try.prog id_impl_appendInt [.one (.os (.v 0) 1 0 n), vI .i64 v] [.own 1 (a.map byD)] [0] (.one (.os (.v 0) 1 0 (a ++ put v).length)) [.own 1 ((a ++ put v).map byD)] := by
 subst hn
 refine F_impl_appendInt ?_
 try (conv => whnf)
 repeat (refine SeqJ.thru ?_; conv => whnf)
 have hl := put_len hv
 refine LoopE.mk (fun (x : List UInt8 × Nat) => mk [(0, .one (.os (.v 0) 1 0 x.1.length)), (1, vI .i64 x.2)] [(0, .own 1 (x.1.map byD))] [0]) (fun x => x.1 ++ put x.2 = a ++ put v ∧ x.2 ≤ v ∧ x.1.length ≤ a.length + 10) (fun x => x.2) (a, v) (by simp; done) (LeX.of ?_) ?_
 ·try (conv => whnf)
  repeat (refine Need.mk ?_ ?_; (focus (first | omega | (simp; done))); conv => whnf)
  trivial
 ·rintro ⟨l, x⟩ ⟨h1, h2, h3⟩
  dsimp only at h1 h2 h3 ⊢
  have hx := put_len (n := x) (by omega)
  have hlen : l.length + (put x).length = a.length + (put v).length := by have := congrArg List.length h1; simpa using this
  have := put_pos x
  try (conv => whnf)
  repeat (refine SeqJ.thru ?_; conv => whnf)
  refine br_dec (fun h9 => ?_) (fun h9 => ?_)
  ·try (conv => whnf)
   repeat (first
    | (refine Need.mk ?_ ?_; (focus (first | omega | rfl)); conv => whnf)
    | (refine Pick.mk ?_ ?_ ?_; rotate_left; (focus (first | with_reducible exact shr7 _ | (with_reducible refine or_u8 _ ?_; omega) | (with_reducible refine and127 _ ?_; omega) | (simp only [List.length_map, List.length_append, List.length_cons, List.length_nil, List.length_replicate, Nat.zero_add]; rfl) | exact map_snoc byD _ _ | (simp only [chunks]; rfl) | exact wbyte _ | (refine SlOf.full ?_; first | (simp; done) | (simp; omega)))); conv => whnf))
   refine Pick.mk (l ++ [u8 ((128 + x % 128 : Nat) : Int)], x / 128) ⟨⟨by rw [put_shift x (by omega)]; exact h1, by dsimp only; omega, ?_⟩, by dsimp only; omega⟩ (LeX.of ?_)
   ·have e := put_shift x (by omega) l
    have := congrArg List.length e
    simp at this ⊢; omega
   ·try (conv => whnf)
    repeat (refine Need.mk ?_ ?_; (focus (first | omega | (simp; done))); conv => whnf)
    trivial
  ·try (conv => whnf)
   repeat (first
    | (refine Need.mk ?_ ?_; (focus (first | omega | rfl)); conv => whnf)
    | (refine Pick.mk ?_ ?_ ?_; rotate_left; (focus (first | (simp only [List.length_map, List.length_append, List.length_cons, List.length_nil, List.length_replicate, Nat.zero_add]; rfl) | exact map_snoc byD _ _ | (simp only [chunks]; rfl) | exact wbyte _ | (refine SlOf.full ?_; first | (simp; done) | (simp; omega)))); conv => whnf))
   refine Out.mk false [0, 1, 2, 3, 4] [] ?_
   try (conv => whnf)
   repeat (refine Need.mk ?_ ?_; (focus ((first | exact flat_by _ | exact flat_in _ | exact flat_st _ | exact flat_ts _ | exact flat_bo _ | exact flat_cl rfl))); conv => whnf)
   have e : a ++ put v = l ++ [u8 x] := by rw [← h1, put_lt (by omega)]
   skip
   rw [e]
   exact ⟨by simp, by simp⟩
theorem i_appendInt_nil (v : Nat) (hv : v < 2 ^ 63) :
  CallD Try.prog id_impl_appendInt [.one .nil, vI .i64 v] [] (.one (.os (.v 0) 1 0 (put v).length)) [.own 1 ((put v).map byD)] := by
 refine F_impl_appendInt ?_
 try (conv => whnf)
 repeat (refine SeqJ.thru ?_; conv => whnf)
 have hl := put_len hv
 refine LoopE.mk (fun (x : List UInt8 × Nat) => mk [(0, .one (.os (.v 5000) 1 0 x.1.length)), (1, vI .i64 x.2)] [(5000, .own 1 (x.1.map byD))] []) (fun x => x.1 ++ put x.2 = ([] : List UInt8) ++ put v ∧ x.2 ≤ v ∧ x.1.length ≤ 0 + 10) (fun x => x.2) (([] : List UInt8), v) (by simp; done) (LeX.of ?_) ?_
 ·try (conv => whnf)
  repeat (refine Need.mk ?_ ?_; (focus (first | omega | (simp; done))); conv => whnf)
  trivial
 ·rintro ⟨l, x⟩ ⟨h1, h2, h3⟩
  dsimp only at h1 h2 h3 ⊢
  have hx := put_len (n := x) (by omega)
  have hlen : l.length + (put x).length = 0 + (put v).length := by have := congrArg List.length h1; simpa using this
  have := put_pos x
  try (conv => whnf)
  repeat (refine SeqJ.thru ?_; conv => whnf)
  refine br_dec (fun h9 => ?_) (fun h9 => ?_)
  ·try (conv => whnf)
   repeat (first
    | (refine Need.mk ?_ ?_; (focus (first | omega | rfl)); conv => whnf)
    | (refine Pick.mk ?_ ?_ ?_; rotate_left; (focus (first | with_reducible exact shr7 _ | (with_reducible refine or_u8 _ ?_; omega) | (with_reducible refine and127 _ ?_; omega) | (simp only [List.length_map, List.length_append, List.length_cons, List.length_nil, List.length_replicate, Nat.zero_add]; rfl) | exact map_snoc byD _ _ | (simp only [chunks]; rfl) | exact wbyte _ | (refine SlOf.full ?_; first | (simp; done) | (simp; omega)))); conv => whnf))
   refine Pick.mk (l ++ [u8 ((128 + x % 128 : Nat) : Int)], x / 128) ⟨⟨by rw [put_shift x (by omega)]; exact h1, by dsimp only; omega, ?_⟩, by dsimp only; omega⟩ (LeX.of ?_)
   ·have e := put_shift x (by omega) l
    have := congrArg List.length e
    simp at this ⊢; omega
   ·try (conv => whnf)
    repeat (refine Need.mk ?_ ?_; (focus (first | omega | (simp; done))); conv => whnf)
    trivial
  ·try (conv => whnf)
   repeat (first
    | (refine Need.mk ?_ ?_; (focus (first | omega | rfl)); conv => whnf)
    | (refine Pick.mk ?_ ?_ ?_; rotate_left; (focus (first | (simp only [List.length_map, List.length_append, List.length_cons, List.length_nil, List.length_replicate, Nat.zero_add]; rfl) | exact map_snoc byD _ _ | (simp only [chunks]; rfl) | exact wbyte _ | (refine SlOf.full ?_; first | (simp; done) | (simp; omega)))); conv => whnf))
   refine Out.mk false [0, 1, 2, 3, 4] [] ?_
   try (conv => whnf)
   repeat (refine Need.mk ?_ ?_; (focus ((first | exact flat_by _ | exact flat_in _ | exact flat_st _ | exact flat_ts _ | exact flat_bo _ | exact flat_cl rfl))); conv => whnf)
   have e : ([] : List UInt8) ++ put v = l ++ [u8 x] := by rw [← h1, put_lt (by omega)]
   rw [List.nil_append] at e
   rw [e]
   exact ⟨by simp, by simp⟩
end Go.Proofs.Ytpdjehnlejjfmaa.D
/- Runs of numbers written, by both. -/
namespace Go.Proofs.Ytpdjehnlejjfmaa.D
open Go.RowKit
set_option maxRecDepth 100000
set_option maxHeartbeats 4000000
set_option linter.unusedVariables false
set_option linter.unusedSimpArgs false

theorem i_zig (d : Int) (h : -4611686018427387903 ≤ d ∧ d ≤ 4611686018427387903) : CallD Try.prog id_impl_zig [vI .i64 d] [] (vI .i64 (zig d)) [] := by
 refine F_impl_zig ?_
 try (conv => whnf)
 repeat' (first
  | (refine Pick.mk ?_ ?_ ?_; rotate_left; (focus ((refine wid ?_ ?_ <;> omega))); conv => whnf)
  | (refine SeqJ.thru ?_; conv => whnf)
  | (refine br_dec (fun _ => ?_) (fun _ => ?_) <;> first | (exfalso; omega) | contradiction | conv => whnf)
  | (refine br_not ?_; conv => whnf)
  | (refine br_bne (fun _ => ?_) (fun _ => ?_) <;> first | (exfalso; omega) | contradiction | conv => whnf)
  | (refine br_beq (fun _ => ?_) (fun _ => ?_) <;> first | (exfalso; omega) | contradiction | conv => whnf))
 ·refine Out.mk true [] [] ?_
  try (conv => whnf)
  exact ⟨by simp only [zig]; rw [if_pos (by omega)]; congr; omega, rfl⟩
 ·refine Out.mk true [] [] ?_
  try (conv => whnf)
  exact ⟨by simp only [zig]; rw [if_neg (by omega)]; congr; omega, rfl⟩
theorem zig_lt {d : Int} (h : -4611686018427387903 ≤ d ∧ d ≤ 4611686018427387903) : zig d < 2 ^ 63 := by
 simp only [zig]; split <;> omega
theorem s_l01Signed (d : Int) (h : -4611686018427387903 ≤ d ∧ d ≤ 4611686018427387903) : CallD Try.prog id_spec_l01Signed [vI .i64 d] [] (.one (.os (.v 0) 1 0 (put (zig d)).length)) [.own 1 ((put (zig d)).map byD)] := by
 refine F_spec_l01Signed ?_
 have hz := zig_lt h
 try (conv => whnf)
 repeat' (first
  | (refine Pick.mk ?_ ?_ ?_; rotate_left; (focus ((refine wid ?_ ?_ <;> omega))); conv => whnf)
  | (refine SeqJ.thru ?_; conv => whnf)
  | (refine br_dec (fun _ => ?_) (fun _ => ?_) <;> first | (exfalso; omega) | contradiction | conv => whnf)
  | (refine br_not ?_; conv => whnf)
  | (refine br_bne (fun _ => ?_) (fun _ => ?_) <;> first | (exfalso; omega) | contradiction | conv => whnf)
  | (refine br_beq (fun _ => ?_) (fun _ => ?_) <;> first | (exfalso; omega) | contradiction | conv => whnf))
 ·have e : -2 * d - 1 = ((zig d : Nat) : Int) := by simp only [zig]; rw [if_pos (by omega)]; omega
  rw [e]
  refine Hand.mk [] ?_
  try (conv => whnf)
  refine CallW.d (s_l01Put (zig d) hz) ?_
  try (conv => whnf)
  refine Out.mk false [0, 1, 2, 3, 4] [] ?_
  try (conv => whnf)
  repeat (refine Need.mk ?_ ?_; (focus ((first | exact flat_by _ | exact flat_in _ | exact flat_st _ | exact flat_ts _ | exact flat_bo _ | exact flat_cl rfl))); conv => whnf)
  exact ⟨rfl, rfl⟩
 ·have e : 2 * d = ((zig d : Nat) : Int) := by simp only [zig]; rw [if_neg (by omega)]; omega
  rw [e]
  refine Hand.mk [] ?_
  try (conv => whnf)
  refine CallW.d (s_l01Put (zig d) hz) ?_
  try (conv => whnf)
  refine Out.mk false [0, 1, 2, 3, 4] [] ?_
  try (conv => whnf)
  repeat (refine Need.mk ?_ ?_; (focus ((first | exact flat_by _ | exact flat_in _ | exact flat_st _ | exact flat_ts _ | exact flat_bo _ | exact flat_cl rfl))); conv => whnf)
  exact ⟨rfl, rfl⟩
theorem at_i (l : List Int) (n : Int) (m : Nat) (h : n = m) (hm : m < l.length) : 0 ≤ n ∧ (l.map inD)[n.toNat]? = some (inD l[m]) := by
 subst h; exact pick_nat l inD m hm
theorem rl_at {l : List Int} {i : Nat} (h : i + 1 < l.length) : rl (l.drop i) = 2 + more (l[i + 1] - l[i]) l[i + 1] (l.drop (i + 2)) := by
 rw [List.drop_eq_getElem_cons (show i < l.length by omega), List.drop_eq_getElem_cons h, rl]
 show more _ _ (l.drop (i + 2)) + 2 = _
 omega
theorem rl_last {l : List Int} {i : Nat} (h : i < l.length) (h1 : ¬ i + 1 < l.length) : rl (l.drop i) = 1 := by
 rw [List.drop_eq_getElem_cons h, List.drop_eq_nil_of_le (by omega), rl]
theorem more_at {l : List Int} {d : Int} {j : Nat} (h : j + 1 < l.length) : more d (l[j]) (l.drop (j + 1)) = if l[j + 1] - l[j] = d then more d l[j + 1] (l.drop (j + 2)) + 1 else 0 := by
 rw [List.drop_eq_getElem_cons h, more]
theorem inM_get {l : List Int} (h : ∀ x ∈ l, inM x) {i : Nat} (hi : i < l.length) : 0 ≤ l[i] ∧ l[i] ≤ 1152921504606846975 := h _ (List.getElem_mem hi)
theorem i_runLen (l : List Int) (i : Nat) (hx : ∀ x ∈ l, inM x) (hl : l.length ≤ 2 ^ 40) (hi : i < l.length) : CallD Try.prog id_impl_runLen [vN l, vI .i64 i] [] (vI .i64 (rl (l.drop i))) [] := by
 refine F_impl_runLen ?_
 by_cases h1 : i + 1 < l.length
 ·have p1 := at_i l ((i : Int) + 1) (i + 1) (by omega) h1
  have p2 := at_i l (i : Int) i rfl hi
  have b1 := inM_get hx h1
  have b2 := inM_get hx hi
  have hr := rl_at h1
  try (conv => whnf)
  repeat' (first
   | (refine Pick.mk ?_ ?_ ?_; rotate_left; (focus (first | assumption | exact List.length_map _ | (refine wid ?_ ?_ <;> omega))); conv => whnf)
   | (refine SeqJ.thru ?_; conv => whnf)
   | (refine br_dec (fun _ => ?_) (fun _ => ?_) <;> first | (exfalso; omega) | contradiction | conv => whnf)
   | (refine br_not ?_; conv => whnf)
   | (refine br_bne (fun _ => ?_) (fun _ => ?_) <;> first | (exfalso; omega) | contradiction | conv => whnf)
   | (refine br_beq (fun _ => ?_) (fun _ => ?_) <;> first | (exfalso; omega) | contradiction | conv => whnf))
  refine LoopE.mk (fun n : Nat => mk [(0, vN l), (1, vI .i64 i), (5, vI .i64 (l[i + 1] - l[i])), (6, vI .i64 n)] [])
   (fun n => ∃ h : i + n - 1 < l.length, 2 ≤ n ∧ rl (l.drop i) = n + more (l[i + 1] - l[i]) l[i + n - 1] (l.drop (i + n))) (fun n => l.length - n) 2 ⟨by omega, by omega, hr⟩ (LeX.of ?_) ?_
  ·try (conv => whnf)
   repeat (refine Need.mk ?_ ?_; (focus (first | omega | (simp; done))); conv => whnf)
   trivial
  ·rintro n ⟨hn, h2, h3⟩
   by_cases h4 : i + n < l.length
   ·have q1 := at_i l ((i : Int) + (n : Int)) (i + n) (by omega) h4
    have q2 := at_i l ((i : Int) + (n : Int) - 1) (i + n - 1) (by omega) hn
    have c1 := inM_get hx h4
    have c2 := inM_get hx hn
    have hm := more_at (l := l) (d := l[i + 1] - l[i]) (j := i + n - 1) (by omega)
    have e1 : i + n - 1 + 1 = i + n := by omega
    have e2 : i + n - 1 + 2 = i + (n + 1) := by omega
    simp only [e1, e2] at hm
    rw [hm] at h3
    try (conv => whnf)
    repeat' (first
     | (refine Pick.mk ?_ ?_ ?_; rotate_left; (focus (first | assumption | exact List.length_map _ | (refine wid ?_ ?_ <;> omega))); conv => whnf)
     | (refine SeqJ.thru ?_; conv => whnf)
     | (refine br_dec (fun _ => ?_) (fun _ => ?_) <;> first | (exfalso; omega) | contradiction | conv => whnf)
     | (refine br_not ?_; conv => whnf)
     | (refine br_bne (fun _ => ?_) (fun _ => ?_) <;> first | (exfalso; omega) | contradiction | conv => whnf)
     | (refine br_beq (fun _ => ?_) (fun _ => ?_) <;> first | (exfalso; omega) | contradiction | conv => whnf))
    ·rename_i g1 g2
     rw [if_pos g2] at h3
     refine Pick.mk (n + 1) ⟨⟨h4, by omega, ?_⟩, by omega⟩ (LeX.of ?_)
     ·rw [h3]
      show n + (more _ l[i + n] _ + 1) = _
      have e3 : l[i + (n + 1) - 1]'h4 = l[i + n] := rfl
      rw [e3]; omega
     ·try (conv => whnf)
      repeat (refine Need.mk ?_ ?_; (focus (first | omega | (simp; done))); conv => whnf)
      trivial
    ·rename_i g1 g2
     rw [if_neg g2] at h3
     refine Out.mk true [] [] ?_
     try (conv => whnf)
     rw [h3]
     exact ⟨rfl, rfl⟩
   ·have hd : l.drop (i + n) = [] := List.drop_eq_nil_of_le (by omega)
    rw [hd] at h3
    simp only [more, Nat.add_zero] at h3
    try (conv => whnf)
    repeat' (first
     | (refine Pick.mk ?_ ?_ ?_; rotate_left; (focus (first | exact List.length_map _ | (refine wid ?_ ?_ <;> omega))); conv => whnf)
     | (refine SeqJ.thru ?_; conv => whnf)
     | (refine br_dec (fun _ => ?_) (fun _ => ?_) <;> first | (exfalso; omega) | contradiction | conv => whnf)
     | (refine br_not ?_; conv => whnf)
     | (refine br_bne (fun _ => ?_) (fun _ => ?_) <;> first | (exfalso; omega) | contradiction | conv => whnf)
     | (refine br_beq (fun _ => ?_) (fun _ => ?_) <;> first | (exfalso; omega) | contradiction | conv => whnf))
    refine Out.mk true [] [] ?_
    try (conv => whnf)
    rw [h3]
    exact ⟨rfl, rfl⟩
 ·have hr := rl_last hi h1
  try (conv => whnf)
  repeat' (first
   | (refine Pick.mk ?_ ?_ ?_; rotate_left; (focus (first | exact List.length_map _ | (refine wid ?_ ?_ <;> omega))); conv => whnf)
   | (refine SeqJ.thru ?_; conv => whnf)
   | (refine br_dec (fun _ => ?_) (fun _ => ?_) <;> first | (exfalso; omega) | contradiction | conv => whnf)
   | (refine br_not ?_; conv => whnf)
   | (refine br_bne (fun _ => ?_) (fun _ => ?_) <;> first | (exfalso; omega) | contradiction | conv => whnf)
   | (refine br_beq (fun _ => ?_) (fun _ => ?_) <;> first | (exfalso; omega) | contradiction | conv => whnf))
  refine Out.mk true [] [] ?_
  try (conv => whnf)
  rw [hr]
  exact ⟨rfl, rfl⟩
theorem putRs_step {l : List Int} {i : Nat} (h : i < l.length) : putRs (l.drop i) =
  put (l[i]).toNat ++ put (rl (l.drop i)) ++ (if h : i + 1 < l.length then put (zig (l[i + 1] - l[i])) else []) ++ putRs (l.drop (i + rl (l.drop i))) := by
 by_cases h1 : i + 1 < l.length
 ·rw [dif_pos h1]
  have e : l.drop i = l[i] :: l[i + 1] :: l.drop (i + 2) := by rw [List.drop_eq_getElem_cons h, List.drop_eq_getElem_cons h1]
  rw [← List.drop_drop]
  generalize hk : rl (l.drop i) = k
  rw [e] at hk ⊢
  rw [putRs_two, hk]
 ·rw [dif_neg h1, rl_last h h1, List.drop_eq_nil_of_le (show l.length ≤ i + 1 by omega), List.drop_eq_getElem_cons h, List.drop_eq_nil_of_le (show l.length ≤ i + 1 by omega), putRs_one, putRs_nil]
  simp
theorem putRs_len : ∀ (n : Nat) (l : List Int), l.length ≤ n → (∀ x ∈ l, inM x) → l.length ≤ 2 ^ 40 → (putRs l).length ≤ 27 * l.length := by
 intro n
 induction n with
 | zero => intro l h _ _; have : l = [] := List.eq_nil_of_length_eq_zero (by omega); subst this; simp [putRs_nil]
 | succ n ih =>
  intro l h hx hl
  rcases Nat.eq_zero_or_pos l.length with h0 | h0
  ·have : l = [] := List.eq_nil_of_length_eq_zero h0; subst this; simp [putRs_nil]
  ·have e := putRs_step (l := l) h0
   have b := inM_get hx h0
   have hr := rl_le l
   have hp := rl_pos (s := l) (by intro e; rw [e] at h0; simp at h0)
   simp only [List.drop_zero, Nat.zero_add] at e
   have h2 := ih (l.drop (rl l)) (by simp; omega) (fun x hx' => hx x (List.mem_of_mem_drop hx')) (by simp; omega)
   have b1 := put_len (n := (l[0]).toNat) (by omega)
   have b2 := put_len (n := rl l) (by omega)
   have b3 : (if h : 1 < l.length then put (zig (l[1] - l[0])) else []).length ≤ 9 := by
    split
    ·rename_i h1
     have c := inM_get hx h1
     exact put_len (zig_lt (by omega))
    ·simp
   have := congrArg List.length e
   simp only [List.length_append, List.length_drop] at this h2
   rw [this]
   have : 27 * (l.length - rl l) + 27 * 1 ≤ 27 * l.length := by omega
   omega
theorem i_appendRuns_nil (l : List Int) (hx : ∀ x ∈ l, inM x) (hl : l.length ≤ 2 ^ 40) :
  CallD Try.prog id_impl_appendRuns [.one .nil, vN l] [] (.one (.os (.v 0) 1 0 (putR l).length)) [.own 1 ((putR l).map byD)] := by
 refine F_impl_appendRuns ?_
 try (conv => whnf)
 repeat (refine Pick.mk ?_ ?_ ?_; rotate_left; (focus (exact List.length_map _)); conv => whnf)
 have hb := put_len (n := l.length) (by omega)
 refine Hand.mk [] ?_
 try (conv => whnf)
 refine CallW.d (i_appendInt_nil l.length (by omega)) ?_
 try (conv => whnf)
 refine LoopE.mk (fun (x : Nat × List UInt8) => mk [(0, .one (.os (.v 8240) 1 0 (put l.length ++ x.2).length)), (1, vN l), (5, vI .i64 x.1)] [(8240, .own 1 ((put l.length ++ x.2).map byD))] [])
  (fun x => x.1 ≤ l.length ∧ x.2.length ≤ 27 * l.length ∧ putRs l = x.2 ++ putRs (l.drop x.1)) (fun x => l.length - x.1) (0, []) ⟨by simp, by simp, by simp⟩ (LeX.of ?_) ?_
 ·try (conv => whnf)
  repeat (refine Need.mk ?_ ?_; (focus (first | omega | (simp; done))); conv => whnf)
  trivial
 ·rintro ⟨i, P⟩ ⟨h1, h2, h3⟩
  dsimp only at h1 h2 h3 ⊢
  have hput := put_len (n := l.length) (by omega)
  rcases Nat.lt_or_ge i l.length with hlt | hge
  ·have b := inM_get hx hlt
   have hr := rl_le (l.drop i)
   simp only [List.length_drop] at hr
   have hp := rl_pos (s := l.drop i) (by intro e; have := congrArg List.length e; simp at this; omega)
   have e := putRs_step hlt
   rw [e] at h3
   have hlen := putRs_len _ l (Nat.le_refl _) hx hl
   have q := congrArg List.length h3
   have b1 := put_len (n := (l[i]).toNat) (by omega)
   have b2 := put_len (n := rl (l.drop i)) (by omega)
   obtain ⟨v, hv⟩ : ∃ v : Nat, l[i] = v := ⟨l[i].toNat, by omega⟩
   have p2 := at_i l (i : Int) i rfl hlt
   rw [hv] at p2 b
   rw [hv, Int.toNat_natCast] at h3 b1 q
   by_cases h4 : i + 1 < l.length
   ·have c := inM_get hx h4
    have hr2 : 2 ≤ rl (l.drop i) := by rw [rl_at h4]; omega
    have p1 := at_i l ((i : Int) + 1) (i + 1) (by omega) h4
    have hz := zig_lt (d := l[i + 1] - v) (by omega)
    have hzl := put_len hz
    rw [dif_pos h4] at h3 q
    simp only [List.length_append] at q
    try (conv => whnf)
    repeat' (first
     | (refine Pick.mk ?_ ?_ ?_; rotate_left; (focus (exact List.length_map _)); conv => whnf)
     | (refine SeqJ.thru ?_; conv => whnf)
     | (refine br_dec (fun _ => ?_) (fun _ => ?_) <;> first | (exfalso; omega) | contradiction | conv => whnf)
     | (refine br_not ?_; conv => whnf)
     | (refine br_bne (fun _ => ?_) (fun _ => ?_) <;> first | (exfalso; omega) | contradiction | conv => whnf)
     | (refine br_beq (fun _ => ?_) (fun _ => ?_) <;> first | (exfalso; omega) | contradiction | conv => whnf))
    refine Hand.mk [] ?_
    try (conv => whnf)
    refine CallW.d (i_runLen l i hx (by omega) hlt) ?_
    try (conv => whnf)
    repeat (refine Pick.mk ?_ ?_ ?_; rotate_left; (focus (assumption)); conv => whnf)
    refine Hand.mk [0] ?_
    try (conv => whnf)
    refine CallW.m (i_appendInt _ _ v rfl (by simp; omega) (by omega)) ?_
    try (conv => whnf)
    refine Hand.mk [0] ?_
    try (conv => whnf)
    refine CallW.m (i_appendInt _ _ (rl (l.drop i)) rfl (by simp; omega) (by omega)) ?_
    try (conv => whnf)
    repeat (refine SeqJ.thru ?_; conv => whnf)
    try (conv => whnf)
    repeat' (first
     | (refine Pick.mk ?_ ?_ ?_; rotate_left; (focus (first | assumption | (refine wid ?_ ?_ <;> omega))); conv => whnf)
     | (refine br_dec (fun _ => ?_) (fun _ => ?_) <;> first | (exfalso; omega) | contradiction | conv => whnf)
     | (refine br_not ?_; conv => whnf)
     | (refine br_bne (fun _ => ?_) (fun _ => ?_) <;> first | (exfalso; omega) | contradiction | conv => whnf)
     | (refine br_beq (fun _ => ?_) (fun _ => ?_) <;> first | (exfalso; omega) | contradiction | conv => whnf))
    refine Hand.mk [] ?_
    try (conv => whnf)
    refine CallW.d (i_zig (l[i + 1] - v) (by omega)) ?_
    try (conv => whnf)
    repeat (refine Need.mk ?_ ?_; (focus (((conv => whnf); (repeat (first | (refine Need.mk (by first | rfl | omega | (simp; done)) ?_; conv => whnf) | (refine Pick.mk ?_ ?_ ?_; rotate_left; (focus (first | with_reducible exact xor_u8 _ _ | (with_reducible refine xor_i64 ?_ ?_; all_goals omega) | (with_reducible refine xor_u32 ?_ ?_; all_goals omega) | assumption | with_reducible exact set_byN _ _ _ _ | with_reducible exact set_byI _ _ _ _ | with_reducible exact set_inN _ _ _ _ | with_reducible exact set_inI _ _ _ _ | with_reducible exact set_stN _ _ _ _ | with_reducible exact set_tsN _ _ _ _ | with_reducible exact set_tsI _ _ _ _ | with_reducible exact set_boN _ _ _ _ | with_reducible exact set_boI _ _ _ _ | (with_reducible refine get_mapN _ _ _ ?_; first | omega | (simp; omega)) | (with_reducible refine get_mapI _ _ _ ?_ ?_ <;> first | omega | (simp; omega)) | exact bs_beq _ _ | exact bs_less _ _ | exact bs_leq _ _ | with_reducible exact bs_app _ _ | (refine bs_get _ _ ?_; omega) | (refine bs_int _ _ ?_ ?_ <;> omega) | with_reducible exact sl_map0 _ _ _ | with_reducible exact sl_mapN _ _ _ | with_reducible exact sl_map _ _ _ _ | exact bs_extract0 _ _ | exact bs_extractN _ _ | exact bs_extract _ _ _ | (refine bnd_id ?_; omega) | (refine bnd_sub ?_ ?_ <;> omega) | (refine bnd_add ?_; omega) | (refine bnd_subN ?_ ?_ <;> omega) | (refine bnd_int ?_ ?_ <;> omega) | ((show @Eq Nat (_ + Int.toNat _ * _) _); simp only [Int.toNat_natCast, Nat.zero_add, Nat.mul_one]; rfl) | ((show @Eq (List _) (List.set [_] _ _) _); simp only [List.set_cons_zero]; rfl) | exact List.length_map _ | exact size_bs _ | (simp only [List.length_map, List.length_append, List.length_cons, List.length_nil, List.length_replicate, Nat.zero_add]; rfl) | with_reducible exact List.nil_append _ | with_reducible exact map_app _ _ _ | exact map_snoc byD _ _ | exact map_snoc inD _ _ | exact map_snoc stD _ _ | exact map_snoc tsD _ _ | (simp only [chunks]; rfl) | (refine wid ?_ ?_ <;> omega) | exact wby _ | with_reducible exact wby32 _ | with_reducible exact wu32 _ | exact wby64 _ | exact shr8 _ | exact shr16 _ | exact shr24 _ | exact shr32 _ | (refine tmodn ?_; omega) | (refine wdiv ?_ ?_ ?_ <;> omega) | exact wbyte _ | exact natlit _ | exact rep_by _ | exact rep_in _ | exact rep_bo _ | exact rep_st _ | (refine pick_nat _ _ _ ?_; omega) | (refine pick_int _ _ _ ?_ ?_ <;> omega) | (refine SlOf.full ?_; first | (simp; done) | (simp; omega)) | (with_reducible refine SlOf.pre _ _ ?_; first | omega | (simp; omega)) | (refine SlF.self _ _ ?_ ?_; (first | rfl | omega | (simp; done) | (simp; omega)); (exact fun _ => rfl)) | (refine SlF.pre _ _ ?_ ?_; (first | omega | (simp; omega)); (exact fun _ => rfl)) | (refine SlF.same ?_ ?_; (first | rfl | omega | (simp; done) | (simp; omega)); (first | exact fz_self _ _ (fun _ => rfl) | exact fz_pl rfl | (refine Fz.append ?_ ?_ <;> first | exact fz_self _ _ (fun _ => rfl) | exact fz_pl rfl) | (refine Fz.append (Fz.append ?_ ?_) ?_ <;> first | exact fz_self _ _ (fun _ => rfl) | exact fz_pl rfl))) | (simp only [Int.toNat_natCast, Nat.zero_add, Nat.mul_one]; rfl) | ((show @Eq (Option CV) _ _); rfl) | ((fail_if_success (show @Eq (Option _) _ _)); rfl) | ((show @Eq (Option _) _ _); simp only [List.getElem?_cons_zero, List.getElem?_cons_succ]; done) | ((show @Eq (Option _) _ _); simp only [List.getElem?_cons_zero, List.getElem?_cons_succ]; rfl) | with_reducible rfl)); conv => whnf))); exact Done.mk trivial))); conv => whnf)
    refine Hand.mk [0] ?_
    try (conv => whnf)
    refine CallW.m (i_appendInt _ _ (zig (l[i + 1] - v)) rfl (by simp; omega) (by omega)) ?_
    try (conv => whnf)
    repeat (refine Pick.mk ?_ ?_ ?_; rotate_left; (focus ((refine wid ?_ ?_ <;> omega))); conv => whnf)
    refine Pick.mk (i + rl (l.drop i), P ++ put v ++ put (rl (l.drop i)) ++ put (zig (l[i + 1] - v))) ⟨⟨by dsimp only; omega, by simp; omega, ?_⟩, by dsimp only; omega⟩ (LeX.of ?_)
    ·dsimp only
     rw [h3]; simp [List.append_assoc]
    ·simp only [← List.append_assoc]
     try (conv => whnf)
     repeat (refine Need.mk ?_ ?_; (focus (first | omega | (simp; done))); conv => whnf)
     trivial
   ·have hr1 := rl_last hlt h4
    rw [dif_neg h4, List.append_nil] at h3 q
    simp only [List.length_append] at q
    try (conv => whnf)
    repeat' (first
     | (refine Pick.mk ?_ ?_ ?_; rotate_left; (focus (exact List.length_map _)); conv => whnf)
     | (refine SeqJ.thru ?_; conv => whnf)
     | (refine br_dec (fun _ => ?_) (fun _ => ?_) <;> first | (exfalso; omega) | contradiction | conv => whnf)
     | (refine br_not ?_; conv => whnf)
     | (refine br_bne (fun _ => ?_) (fun _ => ?_) <;> first | (exfalso; omega) | contradiction | conv => whnf)
     | (refine br_beq (fun _ => ?_) (fun _ => ?_) <;> first | (exfalso; omega) | contradiction | conv => whnf))
    refine Hand.mk [] ?_
    try (conv => whnf)
    refine CallW.d (i_runLen l i hx (by omega) hlt) ?_
    try (conv => whnf)
    repeat (refine Pick.mk ?_ ?_ ?_; rotate_left; (focus (assumption)); conv => whnf)
    refine Hand.mk [0] ?_
    try (conv => whnf)
    refine CallW.m (i_appendInt _ _ v rfl (by simp; omega) (by omega)) ?_
    try (conv => whnf)
    refine Hand.mk [0] ?_
    try (conv => whnf)
    refine CallW.m (i_appendInt _ _ (rl (l.drop i)) rfl (by simp; omega) (by omega)) ?_
    try (conv => whnf)
    repeat (refine SeqJ.thru ?_; conv => whnf)
    try (conv => whnf)
    repeat' (first
     | (refine Pick.mk ?_ ?_ ?_; rotate_left; (focus ((refine wid ?_ ?_ <;> omega))); conv => whnf)
     | (refine br_dec (fun _ => ?_) (fun _ => ?_) <;> first | (exfalso; omega) | contradiction | conv => whnf)
     | (refine br_not ?_; conv => whnf)
     | (refine br_bne (fun _ => ?_) (fun _ => ?_) <;> first | (exfalso; omega) | contradiction | conv => whnf)
     | (refine br_beq (fun _ => ?_) (fun _ => ?_) <;> first | (exfalso; omega) | contradiction | conv => whnf))
    refine Pick.mk (i + rl (l.drop i), P ++ put v ++ put (rl (l.drop i))) ⟨⟨by dsimp only; omega, by simp; omega, ?_⟩, by dsimp only; omega⟩ (LeX.of ?_)
    ·dsimp only
     rw [h3]; simp [List.append_assoc]
    ·simp only [← List.append_assoc]
     try (conv => whnf)
     repeat (refine Need.mk ?_ ?_; (focus (first | omega | (simp; done))); conv => whnf)
     trivial
  ·rw [List.drop_eq_nil_of_le hge, putRs_nil, List.append_nil] at h3
   try (conv => whnf)
   repeat' (first
    | (refine Pick.mk ?_ ?_ ?_; rotate_left; (focus (exact List.length_map _)); conv => whnf)
    | (refine SeqJ.thru ?_; conv => whnf)
    | (refine br_dec (fun _ => ?_) (fun _ => ?_) <;> first | (exfalso; omega) | contradiction | conv => whnf)
    | (refine br_not ?_; conv => whnf)
    | (refine br_bne (fun _ => ?_) (fun _ => ?_) <;> first | (exfalso; omega) | contradiction | conv => whnf)
    | (refine br_beq (fun _ => ?_) (fun _ => ?_) <;> first | (exfalso; omega) | contradiction | conv => whnf))
   refine Out.mk false [0, 1, 2, 3, 4] [] ?_
   try (conv => whnf)
   repeat (refine Need.mk ?_ ?_; (focus ((first | exact flat_by _ | exact flat_in _ | exact flat_st _ | exact flat_ts _ | exact flat_bo _ | exact flat_cl rfl))); conv => whnf)
   rw [← h3]
   exact ⟨by simp [putR], by simp [putR]⟩
end Go.Proofs.Ytpdjehnlejjfmaa.D
/- Runs of numbers written by the reference. -/
namespace Go.Proofs.Ytpdjehnlejjfmaa.D
open Go.RowKit
set_option maxRecDepth 100000
set_option maxHeartbeats 4000000
set_option linter.unusedVariables false
set_option linter.unusedSimpArgs false

theorem wsubN {a b : Nat} (h : b ≤ a) (h2 : a ≤ 4611686018427387904) : IntKind.i64.wrap ((a : Int) - (b : Int)) = ((a - b : Nat) : Int) := by
 rw [wid (by omega) (by omega)]; omega
theorem s_l01PutRuns (l : List Int) (hx : ∀ x ∈ l, inM x) (hl : l.length ≤ 2 ^ 40) :
  CallD Try.prog id_spec_l01PutRuns [vN l] [] (.one (.os (.v 0) 1 0 (putR l).length)) [.own 1 ((putR l).map byD)] := by
 refine F_spec_l01PutRuns ?_
 try (conv => whnf)
 repeat (refine Pick.mk ?_ ?_ ?_; rotate_left; (focus (exact List.length_map _)); conv => whnf)
 have hput := put_len (n := l.length) (by omega)
 refine Hand.mk [] ?_
 try (conv => whnf)
 refine CallW.d (s_l01Put l.length (by omega)) ?_
 try (conv => whnf)
 refine LoopE.mk (fun (x : Nat × List UInt8) => mk [(0, vN l), (3, .one (.os (.v 8224) 1 0 (put l.length ++ x.2).length)), (4, vI .i64 x.1)] [(8224, .own 1 ((put l.length ++ x.2).map byD))])
  (fun x => x.1 ≤ l.length ∧ x.2.length ≤ 27 * l.length ∧ putRs l = x.2 ++ putRs (l.drop x.1)) (fun x => l.length - x.1) (0, []) ⟨by simp, by simp, by simp⟩ (LeX.of ?_) ?_
 ·try (conv => whnf)
  repeat (refine Need.mk ?_ ?_; (focus (first | omega | (simp; done))); conv => whnf)
  trivial
 ·rintro ⟨i, P⟩ ⟨h1, h2, h3⟩
  dsimp only at h1 h2 h3 ⊢
  rcases Nat.lt_or_ge i l.length with hlt | hge
  ·have b := inM_get hx hlt
   have hr := rl_le (l.drop i)
   simp only [List.length_drop] at hr
   have hp := rl_pos (s := l.drop i) (by intro e; have := congrArg List.length e; simp at this; omega)
   have e := putRs_step hlt
   rw [e] at h3
   have hlen := putRs_len _ l (Nat.le_refl _) hx hl
   have q := congrArg List.length h3
   have b1 := put_len (n := (l[i]).toNat) (by omega)
   have b2 := put_len (n := rl (l.drop i)) (by omega)
   obtain ⟨v, hv⟩ : ∃ v : Nat, l[i] = v := ⟨l[i].toNat, by omega⟩
   have p2 := at_i l (i : Int) i rfl hlt
   rw [hv] at p2 b
   rw [hv, Int.toNat_natCast] at h3 b1 q
   have hrl_at : ∀ h : i + 1 < l.length, rl (l.drop i) = 2 + more (l[i + 1] - v) l[i + 1] (l.drop (i + 2)) := fun h => by rw [rl_at h, hv]
   try (conv => whnf)
   repeat' (first
    | (refine Pick.mk ?_ ?_ ?_; rotate_left; (focus (first | exact List.length_map _ | (refine wid ?_ ?_ <;> omega))); conv => whnf)
    | (refine SeqJ.thru ?_; conv => whnf)
    | (refine br_dec (fun _ => ?_) (fun _ => ?_) <;> first | (exfalso; omega) | contradiction | conv => whnf)
    | (refine br_not ?_; conv => whnf)
    | (refine br_bne (fun _ => ?_) (fun _ => ?_) <;> first | (exfalso; omega) | contradiction | conv => whnf)
    | (refine br_beq (fun _ => ?_) (fun _ => ?_) <;> first | (exfalso; omega) | contradiction | conv => whnf))
   refine LoopE.mk (fun k : Nat => mk [(0, vN l), (3, .one (.os (.v 8224) 1 0 (put l.length ++ P).length)), (4, vI .i64 i), (5, vI .i64 k)] [(8224, .own 1 ((put l.length ++ P).map byD))])
    (fun k => (k = i + 1 ∨ ∃ (h : i + 1 < l.length) (h2 : k - 1 < l.length), i + 2 ≤ k ∧ rl (l.drop i) = k - i + more (l[i + 1] - v) l[k - 1] (l.drop k))) (fun k => l.length - k) (i + 1) (.inl rfl) (LeX.of ?_) ?_
   ·try (conv => whnf)
    repeat (refine Need.mk ?_ ?_; (focus (first | omega | (simp; done))); conv => whnf)
    trivial
   ·rintro k hk
    have hkr : k ≤ l.length := by rcases hk with rfl | ⟨_, h, _⟩ <;> omega
    have hkl : i + 1 ≤ k := by rcases hk with rfl | ⟨_, _, h, _⟩ <;> omega
    rcases Nat.lt_or_ge k l.length with hklt | hkge
    ·rcases hk with rfl | ⟨h4, h5, h6, h7⟩
     ·try (conv => whnf)
      repeat' (first
       | (refine Pick.mk ?_ ?_ ?_; rotate_left; (focus (first | exact List.length_map _ | (refine wid ?_ ?_ <;> omega))); conv => whnf)
       | (refine SeqJ.thru ?_; conv => whnf)
       | (refine br_dec (fun _ => ?_) (fun _ => ?_) <;> first | (exfalso; omega) | contradiction | conv => whnf)
       | (refine br_not ?_; conv => whnf)
       | (refine br_bne (fun _ => ?_) (fun _ => ?_) <;> first | (exfalso; omega) | contradiction | conv => whnf)
       | (refine br_beq (fun _ => ?_) (fun _ => ?_) <;> first | (exfalso; omega) | contradiction | conv => whnf))
      refine Pick.mk (i + 1 + 1) ⟨.inr ⟨hklt, hklt, by omega, ?_⟩, by omega⟩ (LeX.of ?_)
      ·rw [hrl_at hklt]
       have e9 : l[i + 1 + 1 - 1]'hklt = l[i + 1] := rfl
       rw [e9]
       show _ = _ + more _ _ (l.drop (i + 2))
       omega
      ·try (conv => whnf)
       repeat (refine Need.mk ?_ ?_; (focus (first | omega | (simp; done))); conv => whnf)
       trivial
     ·have c1 := inM_get hx hklt
      have c2 := inM_get hx h5
      have c3 := inM_get hx h4
      have q1 := at_i l (k : Int) k rfl hklt
      have q2 := at_i l ((k : Int) - 1) (k - 1) (by omega) h5
      have q3 := at_i l ((i : Int) + 1) (i + 1) (by omega) h4
      have hm := more_at (l := l) (d := l[i + 1] - v) (j := k - 1) (by omega)
      have e1 : k - 1 + 1 = k := by omega
      have e2 : k - 1 + 2 = k + 1 := by omega
      simp only [e1, e2] at hm
      rw [hm] at h7
      try (conv => whnf)
      repeat' (first
       | (refine Pick.mk ?_ ?_ ?_; rotate_left; (focus (first | assumption | exact List.length_map _ | (refine wid ?_ ?_ <;> omega))); conv => whnf)
       | (refine SeqJ.thru ?_; conv => whnf)
       | (refine br_dec (fun _ => ?_) (fun _ => ?_) <;> first | (exfalso; omega) | contradiction | conv => whnf)
       | (refine br_not ?_; conv => whnf)
       | (refine br_bne (fun _ => ?_) (fun _ => ?_) <;> first | (exfalso; omega) | contradiction | conv => whnf)
       | (refine br_beq (fun _ => ?_) (fun _ => ?_) <;> first | (exfalso; omega) | contradiction | conv => whnf))
      ·rename_i g0 g1 g2 g3
       rw [if_pos g3] at h7
       refine Pick.mk (k + 1) ⟨.inr ⟨h4, hklt, by omega, ?_⟩, by omega⟩ (LeX.of ?_)
       ·have e9 : l[k + 1 - 1]'hklt = l[k] := rfl
        rw [e9]; omega
       ·try (conv => whnf)
        repeat (refine Need.mk ?_ ?_; (focus (first | omega | (simp; done))); conv => whnf)
        trivial
      ·rename_i g0 g1 g2 g3
       rw [if_neg g3] at h7
       have hrl : rl (l.drop i) = k - i := by omega
       rw [hrl, dif_pos h4] at h3 q
       simp only [List.length_append] at q
       have hz := zig_lt (d := l[i + 1] - v) (by omega)
       have hzl := put_len hz
       have ek : (k : Int) - (i : Int) = ((k - i : Nat) : Int) := by omega
       refine Hand.mk [] ?_
       try (conv => whnf)
       refine CallW.d (s_l01Put v (by omega)) ?_
       try (conv => whnf)
       repeat (first
        | (refine Need.mk ?_ ?_; (focus (first | omega | (first | exact fz_self _ _ (fun _ => rfl) | exact fz_pl rfl | (refine Fz.append ?_ ?_ <;> first | exact fz_self _ _ (fun _ => rfl) | exact fz_pl rfl) | (refine Fz.append (Fz.append ?_ ?_) ?_ <;> first | exact fz_self _ _ (fun _ => rfl) | exact fz_pl rfl)))); conv => whnf)
        | (refine Pick.mk ?_ ?_ ?_; rotate_left; (focus (first | (with_reducible refine wsubN ?_ ?_ <;> omega) | (simp only [List.length_map, List.length_append, List.length_cons, List.length_nil, List.length_replicate, Nat.zero_add]; rfl) | with_reducible exact map_app _ _ _ | (refine SlOf.full ?_; first | (simp; done) | (simp; omega)))); conv => whnf))
       refine Hand.mk [] ?_
       try (conv => whnf)
       refine CallW.d (s_l01Put (k - i) (by omega)) ?_
       try (conv => whnf)
       repeat (first
        | (refine Need.mk ?_ ?_; (focus (first | omega | (first | exact fz_self _ _ (fun _ => rfl) | exact fz_pl rfl | (refine Fz.append ?_ ?_ <;> first | exact fz_self _ _ (fun _ => rfl) | exact fz_pl rfl) | (refine Fz.append (Fz.append ?_ ?_) ?_ <;> first | exact fz_self _ _ (fun _ => rfl) | exact fz_pl rfl)))); conv => whnf)
        | (refine Pick.mk ?_ ?_ ?_; rotate_left; (focus (first | (with_reducible refine wsubN ?_ ?_ <;> omega) | (simp only [List.length_map, List.length_append, List.length_cons, List.length_nil, List.length_replicate, Nat.zero_add]; rfl) | with_reducible exact map_app _ _ _ | (refine SlOf.full ?_; first | (simp; done) | (simp; omega)))); conv => whnf)
        | (refine SeqJ.thru ?_; conv => whnf))
       try (conv => whnf)
       repeat' (first
        | (refine Pick.mk ?_ ?_ ?_; rotate_left; (focus (first | assumption | (refine wid ?_ ?_ <;> omega))); conv => whnf)
        | (refine br_dec (fun _ => ?_) (fun _ => ?_) <;> first | (exfalso; omega) | contradiction | conv => whnf)
        | (refine br_not ?_; conv => whnf)
        | (refine br_bne (fun _ => ?_) (fun _ => ?_) <;> first | (exfalso; omega) | contradiction | conv => whnf)
        | (refine br_beq (fun _ => ?_) (fun _ => ?_) <;> first | (exfalso; omega) | contradiction | conv => whnf))
       refine Hand.mk [] ?_
       try (conv => whnf)
       refine CallW.d (s_l01Signed (l[i + 1] - v) (by omega)) ?_
       try (conv => whnf)
       repeat (first
        | (refine Need.mk ?_ ?_; (focus (first | omega | (first | exact fz_self _ _ (fun _ => rfl) | exact fz_pl rfl | (refine Fz.append ?_ ?_ <;> first | exact fz_self _ _ (fun _ => rfl) | exact fz_pl rfl) | (refine Fz.append (Fz.append ?_ ?_) ?_ <;> first | exact fz_self _ _ (fun _ => rfl) | exact fz_pl rfl)) | ((conv => whnf); (repeat (first | (refine Need.mk (by first | rfl | omega | (simp; done)) ?_; conv => whnf) | (refine Pick.mk ?_ ?_ ?_; rotate_left; (focus (first | with_reducible exact xor_u8 _ _ | (with_reducible refine xor_i64 ?_ ?_; all_goals omega) | (with_reducible refine xor_u32 ?_ ?_; all_goals omega) | (with_reducible refine wsubN ?_ ?_ <;> omega) | assumption | with_reducible exact set_byN _ _ _ _ | with_reducible exact set_byI _ _ _ _ | with_reducible exact set_inN _ _ _ _ | with_reducible exact set_inI _ _ _ _ | with_reducible exact set_stN _ _ _ _ | with_reducible exact set_tsN _ _ _ _ | with_reducible exact set_tsI _ _ _ _ | with_reducible exact set_boN _ _ _ _ | with_reducible exact set_boI _ _ _ _ | (with_reducible refine get_mapN _ _ _ ?_; first | omega | (simp; omega)) | (with_reducible refine get_mapI _ _ _ ?_ ?_ <;> first | omega | (simp; omega)) | exact bs_beq _ _ | exact bs_less _ _ | exact bs_leq _ _ | with_reducible exact bs_app _ _ | (refine bs_get _ _ ?_; omega) | (refine bs_int _ _ ?_ ?_ <;> omega) | with_reducible exact sl_map0 _ _ _ | with_reducible exact sl_mapN _ _ _ | with_reducible exact sl_map _ _ _ _ | exact bs_extract0 _ _ | exact bs_extractN _ _ | exact bs_extract _ _ _ | (refine bnd_id ?_; omega) | (refine bnd_sub ?_ ?_ <;> omega) | (refine bnd_add ?_; omega) | (refine bnd_subN ?_ ?_ <;> omega) | (refine bnd_int ?_ ?_ <;> omega) | ((show @Eq Nat (_ + Int.toNat _ * _) _); simp only [Int.toNat_natCast, Nat.zero_add, Nat.mul_one]; rfl) | ((show @Eq (List _) (List.set [_] _ _) _); simp only [List.set_cons_zero]; rfl) | exact List.length_map _ | exact size_bs _ | (simp only [List.length_map, List.length_append, List.length_cons, List.length_nil, List.length_replicate, Nat.zero_add]; rfl) | with_reducible exact List.nil_append _ | with_reducible exact map_app _ _ _ | exact map_snoc byD _ _ | exact map_snoc inD _ _ | exact map_snoc stD _ _ | exact map_snoc tsD _ _ | (simp only [chunks]; rfl) | (refine wid ?_ ?_ <;> omega) | exact wby _ | with_reducible exact wby32 _ | with_reducible exact wu32 _ | exact wby64 _ | exact shr8 _ | exact shr16 _ | exact shr24 _ | exact shr32 _ | (refine tmodn ?_; omega) | (refine wdiv ?_ ?_ ?_ <;> omega) | exact wbyte _ | exact natlit _ | exact rep_by _ | exact rep_in _ | exact rep_bo _ | exact rep_st _ | (refine pick_nat _ _ _ ?_; omega) | (refine pick_int _ _ _ ?_ ?_ <;> omega) | (refine SlOf.full ?_; first | (simp; done) | (simp; omega)) | (with_reducible refine SlOf.pre _ _ ?_; first | omega | (simp; omega)) | (refine SlF.self _ _ ?_ ?_; (first | rfl | omega | (simp; done) | (simp; omega)); (exact fun _ => rfl)) | (refine SlF.pre _ _ ?_ ?_; (first | omega | (simp; omega)); (exact fun _ => rfl)) | (refine SlF.same ?_ ?_; (first | rfl | omega | (simp; done) | (simp; omega)); (first | exact fz_self _ _ (fun _ => rfl) | exact fz_pl rfl | (refine Fz.append ?_ ?_ <;> first | exact fz_self _ _ (fun _ => rfl) | exact fz_pl rfl) | (refine Fz.append (Fz.append ?_ ?_) ?_ <;> first | exact fz_self _ _ (fun _ => rfl) | exact fz_pl rfl))) | (simp only [Int.toNat_natCast, Nat.zero_add, Nat.mul_one]; rfl) | ((show @Eq (Option CV) _ _); rfl) | ((fail_if_success (show @Eq (Option _) _ _)); rfl) | ((show @Eq (Option _) _ _); simp only [List.getElem?_cons_zero, List.getElem?_cons_succ]; done) | ((show @Eq (Option _) _ _); simp only [List.getElem?_cons_zero, List.getElem?_cons_succ]; rfl) | with_reducible rfl)); conv => whnf))); exact Done.mk trivial))); conv => whnf)
        | (refine Pick.mk ?_ ?_ ?_; rotate_left; (focus (first | (simp only [List.length_map, List.length_append, List.length_cons, List.length_nil, List.length_replicate, Nat.zero_add]; rfl) | with_reducible exact map_app _ _ _ | (refine SlOf.full ?_; first | (simp; done) | (simp; omega)))); conv => whnf))
       refine Pick.mk (k, P ++ put v ++ put (k - i) ++ put (zig (l[i + 1] - v))) ⟨⟨by dsimp only; omega, by simp; omega, ?_⟩, by dsimp only; omega⟩ (LeX.of ?_)
       ·dsimp only
        rw [h3, show i + (k - i) = k by omega]; simp [List.append_assoc]
       ·simp only [← List.append_assoc]
        try (conv => whnf)
        repeat (refine Need.mk ?_ ?_; (focus (first | omega | (simp; done) | (simp; omega))); conv => whnf)
        trivial
    ·have hrl : rl (l.drop i) = k - i := by
      rcases hk with rfl | ⟨h4, h5, h6, h7⟩
      ·rw [rl_last hlt (by omega)]; omega
      ·have hd : l.drop k = [] := List.drop_eq_nil_of_le hkge
       rw [hd] at h7; simp only [more] at h7; omega
     try (conv => whnf)
     repeat' (first
      | (refine Pick.mk ?_ ?_ ?_; rotate_left; (focus (first | assumption | exact List.length_map _)); conv => whnf)
      | (refine SeqJ.thru ?_; conv => whnf)
      | (refine br_dec (fun _ => ?_) (fun _ => ?_) <;> first | (exfalso; omega) | contradiction | conv => whnf)
      | (refine br_not ?_; conv => whnf)
      | (refine br_bne (fun _ => ?_) (fun _ => ?_) <;> first | (exfalso; omega) | contradiction | conv => whnf)
      | (refine br_beq (fun _ => ?_) (fun _ => ?_) <;> first | (exfalso; omega) | contradiction | conv => whnf))
     by_cases h4 : i + 1 < l.length
     ·have c3 := inM_get hx h4
      have q3 := at_i l ((i : Int) + 1) (i + 1) (by omega) h4
      rw [hrl, dif_pos h4] at h3 q
      simp only [List.length_append] at q
      have hz := zig_lt (d := l[i + 1] - v) (by omega)
      have hzl := put_len hz
      have ek : (k : Int) - (i : Int) = ((k - i : Nat) : Int) := by omega
      refine Hand.mk [] ?_
      try (conv => whnf)
      refine CallW.d (s_l01Put v (by omega)) ?_
      try (conv => whnf)
      repeat (first
       | (refine Need.mk ?_ ?_; (focus (first | omega | (first | exact fz_self _ _ (fun _ => rfl) | exact fz_pl rfl | (refine Fz.append ?_ ?_ <;> first | exact fz_self _ _ (fun _ => rfl) | exact fz_pl rfl) | (refine Fz.append (Fz.append ?_ ?_) ?_ <;> first | exact fz_self _ _ (fun _ => rfl) | exact fz_pl rfl)))); conv => whnf)
       | (refine Pick.mk ?_ ?_ ?_; rotate_left; (focus (first | (with_reducible refine wsubN ?_ ?_ <;> omega) | (with_reducible refine wsubN ?_ ?_ <;> omega) | (simp only [List.length_map, List.length_append, List.length_cons, List.length_nil, List.length_replicate, Nat.zero_add]; rfl) | with_reducible exact map_app _ _ _ | (refine SlOf.full ?_; first | (simp; done) | (simp; omega)))); conv => whnf))
      refine Hand.mk [] ?_
      try (conv => whnf)
      refine CallW.d (s_l01Put (k - i) (by omega)) ?_
      try (conv => whnf)
      repeat (first
       | (refine Need.mk ?_ ?_; (focus (first | omega | (first | exact fz_self _ _ (fun _ => rfl) | exact fz_pl rfl | (refine Fz.append ?_ ?_ <;> first | exact fz_self _ _ (fun _ => rfl) | exact fz_pl rfl) | (refine Fz.append (Fz.append ?_ ?_) ?_ <;> first | exact fz_self _ _ (fun _ => rfl) | exact fz_pl rfl)))); conv => whnf)
       | (refine Pick.mk ?_ ?_ ?_; rotate_left; (focus (first | (with_reducible refine wsubN ?_ ?_ <;> omega) | (with_reducible refine wsubN ?_ ?_ <;> omega) | (simp only [List.length_map, List.length_append, List.length_cons, List.length_nil, List.length_replicate, Nat.zero_add]; rfl) | with_reducible exact map_app _ _ _ | (refine SlOf.full ?_; first | (simp; done) | (simp; omega)))); conv => whnf)
       | (refine SeqJ.thru ?_; conv => whnf))
      try (conv => whnf)
      repeat' (first
       | (refine Pick.mk ?_ ?_ ?_; rotate_left; (focus (first | assumption | (refine wid ?_ ?_ <;> omega))); conv => whnf)
       | (refine br_dec (fun _ => ?_) (fun _ => ?_) <;> first | (exfalso; omega) | contradiction | conv => whnf)
       | (refine br_not ?_; conv => whnf)
       | (refine br_bne (fun _ => ?_) (fun _ => ?_) <;> first | (exfalso; omega) | contradiction | conv => whnf)
       | (refine br_beq (fun _ => ?_) (fun _ => ?_) <;> first | (exfalso; omega) | contradiction | conv => whnf))
      refine Hand.mk [] ?_
      try (conv => whnf)
      refine CallW.d (s_l01Signed (l[i + 1] - v) (by omega)) ?_
      try (conv => whnf)
      repeat (first
       | (refine Need.mk ?_ ?_; (focus (first | omega | (first | exact fz_self _ _ (fun _ => rfl) | exact fz_pl rfl | (refine Fz.append ?_ ?_ <;> first | exact fz_self _ _ (fun _ => rfl) | exact fz_pl rfl) | (refine Fz.append (Fz.append ?_ ?_) ?_ <;> first | exact fz_self _ _ (fun _ => rfl) | exact fz_pl rfl)) | ((conv => whnf); (repeat (first | (refine Need.mk (by first | rfl | omega | (simp; done)) ?_; conv => whnf) | (refine Pick.mk ?_ ?_ ?_; rotate_left; (focus (first | with_reducible exact xor_u8 _ _ | (with_reducible refine xor_i64 ?_ ?_; all_goals omega) | (with_reducible refine xor_u32 ?_ ?_; all_goals omega) | (with_reducible refine wsubN ?_ ?_ <;> omega) | (with_reducible refine wsubN ?_ ?_ <;> omega) | assumption | with_reducible exact set_byN _ _ _ _ | with_reducible exact set_byI _ _ _ _ | with_reducible exact set_inN _ _ _ _ | with_reducible exact set_inI _ _ _ _ | with_reducible exact set_stN _ _ _ _ | with_reducible exact set_tsN _ _ _ _ | with_reducible exact set_tsI _ _ _ _ | with_reducible exact set_boN _ _ _ _ | with_reducible exact set_boI _ _ _ _ | (with_reducible refine get_mapN _ _ _ ?_; first | omega | (simp; omega)) | (with_reducible refine get_mapI _ _ _ ?_ ?_ <;> first | omega | (simp; omega)) | exact bs_beq _ _ | exact bs_less _ _ | exact bs_leq _ _ | with_reducible exact bs_app _ _ | (refine bs_get _ _ ?_; omega) | (refine bs_int _ _ ?_ ?_ <;> omega) | with_reducible exact sl_map0 _ _ _ | with_reducible exact sl_mapN _ _ _ | with_reducible exact sl_map _ _ _ _ | exact bs_extract0 _ _ | exact bs_extractN _ _ | exact bs_extract _ _ _ | (refine bnd_id ?_; omega) | (refine bnd_sub ?_ ?_ <;> omega) | (refine bnd_add ?_; omega) | (refine bnd_subN ?_ ?_ <;> omega) | (refine bnd_int ?_ ?_ <;> omega) | ((show @Eq Nat (_ + Int.toNat _ * _) _); simp only [Int.toNat_natCast, Nat.zero_add, Nat.mul_one]; rfl) | ((show @Eq (List _) (List.set [_] _ _) _); simp only [List.set_cons_zero]; rfl) | exact List.length_map _ | exact size_bs _ | (simp only [List.length_map, List.length_append, List.length_cons, List.length_nil, List.length_replicate, Nat.zero_add]; rfl) | with_reducible exact List.nil_append _ | with_reducible exact map_app _ _ _ | exact map_snoc byD _ _ | exact map_snoc inD _ _ | exact map_snoc stD _ _ | exact map_snoc tsD _ _ | (simp only [chunks]; rfl) | (refine wid ?_ ?_ <;> omega) | exact wby _ | with_reducible exact wby32 _ | with_reducible exact wu32 _ | exact wby64 _ | exact shr8 _ | exact shr16 _ | exact shr24 _ | exact shr32 _ | (refine tmodn ?_; omega) | (refine wdiv ?_ ?_ ?_ <;> omega) | exact wbyte _ | exact natlit _ | exact rep_by _ | exact rep_in _ | exact rep_bo _ | exact rep_st _ | (refine pick_nat _ _ _ ?_; omega) | (refine pick_int _ _ _ ?_ ?_ <;> omega) | (refine SlOf.full ?_; first | (simp; done) | (simp; omega)) | (with_reducible refine SlOf.pre _ _ ?_; first | omega | (simp; omega)) | (refine SlF.self _ _ ?_ ?_; (first | rfl | omega | (simp; done) | (simp; omega)); (exact fun _ => rfl)) | (refine SlF.pre _ _ ?_ ?_; (first | omega | (simp; omega)); (exact fun _ => rfl)) | (refine SlF.same ?_ ?_; (first | rfl | omega | (simp; done) | (simp; omega)); (first | exact fz_self _ _ (fun _ => rfl) | exact fz_pl rfl | (refine Fz.append ?_ ?_ <;> first | exact fz_self _ _ (fun _ => rfl) | exact fz_pl rfl) | (refine Fz.append (Fz.append ?_ ?_) ?_ <;> first | exact fz_self _ _ (fun _ => rfl) | exact fz_pl rfl))) | (simp only [Int.toNat_natCast, Nat.zero_add, Nat.mul_one]; rfl) | ((show @Eq (Option CV) _ _); rfl) | ((fail_if_success (show @Eq (Option _) _ _)); rfl) | ((show @Eq (Option _) _ _); simp only [List.getElem?_cons_zero, List.getElem?_cons_succ]; done) | ((show @Eq (Option _) _ _); simp only [List.getElem?_cons_zero, List.getElem?_cons_succ]; rfl) | with_reducible rfl)); conv => whnf))); exact Done.mk trivial))); conv => whnf)
       | (refine Pick.mk ?_ ?_ ?_; rotate_left; (focus (first | (simp only [List.length_map, List.length_append, List.length_cons, List.length_nil, List.length_replicate, Nat.zero_add]; rfl) | with_reducible exact map_app _ _ _ | (refine SlOf.full ?_; first | (simp; done) | (simp; omega)))); conv => whnf))
      refine Pick.mk (k, P ++ put v ++ put (k - i) ++ put (zig (l[i + 1] - v))) ⟨⟨by dsimp only; omega, by simp; omega, ?_⟩, by dsimp only; omega⟩ (LeX.of ?_)
      ·dsimp only
       rw [h3, show i + (k - i) = k by omega]; simp [List.append_assoc]
      ·simp only [← List.append_assoc]
       try (conv => whnf)
       repeat (refine Need.mk ?_ ?_; (focus (first | omega | (simp; done) | (simp; omega))); conv => whnf)
       trivial
     ·have hk1 : k = i + 1 := by omega
      subst hk1
      rw [hrl, dif_neg h4, List.append_nil] at h3 q
      simp only [List.length_append] at q
      have ek : ((i + 1 : Nat) : Int) - (i : Int) = ((i + 1 - i : Nat) : Int) := by omega
      have hp1 : (put (i + 1 - i)).length = (put 1).length := by rw [show i + 1 - i = 1 by omega]
      refine Hand.mk [] ?_
      try (conv => whnf)
      refine CallW.d (s_l01Put v (by omega)) ?_
      try (conv => whnf)
      repeat (first
       | (refine Need.mk ?_ ?_; (focus (first | omega | (first | exact fz_self _ _ (fun _ => rfl) | exact fz_pl rfl | (refine Fz.append ?_ ?_ <;> first | exact fz_self _ _ (fun _ => rfl) | exact fz_pl rfl) | (refine Fz.append (Fz.append ?_ ?_) ?_ <;> first | exact fz_self _ _ (fun _ => rfl) | exact fz_pl rfl)))); conv => whnf)
       | (refine Pick.mk ?_ ?_ ?_; rotate_left; (focus (first | (with_reducible refine wsubN ?_ ?_ <;> omega) | (with_reducible refine wsubN ?_ ?_ <;> omega) | (simp only [List.length_map, List.length_append, List.length_cons, List.length_nil, List.length_replicate, Nat.zero_add]; rfl) | with_reducible exact map_app _ _ _ | (refine SlOf.full ?_; first | (simp; done) | (simp; omega)))); conv => whnf))
      refine Hand.mk [] ?_
      try (conv => whnf)
      refine CallW.d (s_l01Put (i + 1 - i) (by omega)) ?_
      try (conv => whnf)
      repeat (first
       | (refine Need.mk ?_ ?_; (focus (first | omega | (first | exact fz_self _ _ (fun _ => rfl) | exact fz_pl rfl | (refine Fz.append ?_ ?_ <;> first | exact fz_self _ _ (fun _ => rfl) | exact fz_pl rfl) | (refine Fz.append (Fz.append ?_ ?_) ?_ <;> first | exact fz_self _ _ (fun _ => rfl) | exact fz_pl rfl)))); conv => whnf)
       | (refine Pick.mk ?_ ?_ ?_; rotate_left; (focus (first | (with_reducible refine wsubN ?_ ?_ <;> omega) | (with_reducible refine wsubN ?_ ?_ <;> omega) | (simp only [List.length_map, List.length_append, List.length_cons, List.length_nil, List.length_replicate, Nat.zero_add]; rfl) | with_reducible exact map_app _ _ _ | (refine SlOf.full ?_; first | (simp; done) | (simp; omega)))); conv => whnf)
       | (refine SeqJ.thru ?_; conv => whnf))
      try (conv => whnf)
      repeat' (first
       | (refine br_dec (fun _ => ?_) (fun _ => ?_) <;> first | (exfalso; omega) | contradiction | conv => whnf)
       | (refine br_not ?_; conv => whnf)
       | (refine br_bne (fun _ => ?_) (fun _ => ?_) <;> first | (exfalso; omega) | contradiction | conv => whnf)
       | (refine br_beq (fun _ => ?_) (fun _ => ?_) <;> first | (exfalso; omega) | contradiction | conv => whnf))
      refine Pick.mk (i + 1, P ++ put v ++ put (i + 1 - i)) ⟨⟨by dsimp only; omega, by simp; omega, ?_⟩, by dsimp only; omega⟩ (LeX.of ?_)
      ·dsimp only
       rw [h3, show i + (i + 1 - i) = i + 1 by omega]; simp [List.append_assoc]
      ·simp only [← List.append_assoc]
       try (conv => whnf)
       repeat (refine Need.mk ?_ ?_; (focus (first | omega | (simp; done) | (simp; omega))); conv => whnf)
       trivial
  ·rw [List.drop_eq_nil_of_le hge, putRs_nil, List.append_nil] at h3
   try (conv => whnf)
   repeat' (first
    | (refine Pick.mk ?_ ?_ ?_; rotate_left; (focus (exact List.length_map _)); conv => whnf)
    | (refine SeqJ.thru ?_; conv => whnf)
    | (refine br_dec (fun _ => ?_) (fun _ => ?_) <;> first | (exfalso; omega) | contradiction | conv => whnf)
    | (refine br_not ?_; conv => whnf)
    | (refine br_bne (fun _ => ?_) (fun _ => ?_) <;> first | (exfalso; omega) | contradiction | conv => whnf)
    | (refine br_beq (fun _ => ?_) (fun _ => ?_) <;> first | (exfalso; omega) | contradiction | conv => whnf))
   refine Out.mk false [0, 1, 2, 3, 4] [] ?_
   try (conv => whnf)
   repeat (refine Need.mk ?_ ?_; (focus ((first | exact flat_by _ | exact flat_in _ | exact flat_st _ | exact flat_ts _ | exact flat_bo _ | exact flat_cl rfl))); conv => whnf)
   rw [← h3]
   exact ⟨by simp [putR], by simp [putR]⟩
end Go.Proofs.Ytpdjehnlejjfmaa.D
/- Readers of bytes: the next number, the next text, by both. -/
namespace Go.Proofs.Ytpdjehnlejjfmaa.D
open Go.RowKit
set_option maxRecDepth 100000
set_option linter.unusedVariables false
set_option linter.unusedSimpArgs false

theorem s_l01Alike (a b : List UInt8) (ha : a.length ≤ 2 ^ 40) (hb : b.length ≤ 2 ^ 40) : CallD Try.prog id_spec_l01Alike [vS (bs a), vS (bs b)] [] (vI .i64 (alike a b)) [] := by
 refine F_spec_l01Alike ?_
 try (conv => whnf)
 repeat (refine SeqJ.thru ?_; conv => whnf)
 refine LoopE.mk (fun i : Nat => mk [(0, vS (bs a)), (1, vS (bs b)), (5, vI .i64 i)] []) (fun i => i ≤ a.length ∧ i ≤ b.length ∧ a.take i = b.take i) (fun i => a.length - i) 0 (by simp) (LeX.of ?_) ?_
 ·try (conv => whnf)
  repeat (refine Need.mk ?_ ?_; (focus (first | omega | (simp; done))); conv => whnf)
  trivial
 ·rintro i ⟨h1, h2, h3⟩
  by_cases h4 : i < a.length ∧ i < b.length
  ·have ha' := byLt (a[i]'h4.1)
   by_cases h5 : a[i]'h4.1 = b[i]'h4.2
   ·have e : ((a[i]'h4.1).toNat : Int) = ((b[i]'h4.2).toNat : Int) := by rw [h5]
    try (conv => whnf)
    repeat' (first
     | (refine Pick.mk ?_ ?_ ?_; rotate_left; (focus (first | (refine bs_get _ _ ?_; omega) | exact size_bs _ | (refine wid ?_ ?_ <;> omega))); conv => whnf)
     | (refine SeqJ.thru ?_; conv => whnf)
     | (refine br_dec (fun _ => ?_) (fun _ => ?_) <;> first | (exfalso; omega) | contradiction | conv => whnf)
     | (refine br_not ?_; conv => whnf)
     | (refine br_bne (fun _ => ?_) (fun _ => ?_) <;> first | (exfalso; omega) | contradiction | conv => whnf)
     | (refine br_beq (fun _ => ?_) (fun _ => ?_) <;> first | (exfalso; omega) | contradiction | conv => whnf))
    ·refine Pick.mk (i + 1) ⟨⟨by omega, by omega, ?_⟩, by omega⟩ (LeX.of ?_)
     ·rw [List.take_succ_eq_append_getElem h4.1, List.take_succ_eq_append_getElem h4.2, h3, h5]
     ·try (conv => whnf)
      repeat (refine Need.mk ?_ ?_; (focus (first | omega | (simp; done))); conv => whnf)
      trivial
   ·have e : ((a[i]'h4.1).toNat : Int) ≠ ((b[i]'h4.2).toNat : Int) := fun e => h5 (UInt8.toNat.inj (by omega))
    try (conv => whnf)
    repeat' (first
     | (refine Pick.mk ?_ ?_ ?_; rotate_left; (focus (first | (refine bs_get _ _ ?_; omega) | exact size_bs _)); conv => whnf)
     | (refine SeqJ.thru ?_; conv => whnf)
     | (refine br_dec (fun _ => ?_) (fun _ => ?_) <;> first | (exfalso; omega) | contradiction | conv => whnf)
     | (refine br_not ?_; conv => whnf)
     | (refine br_bne (fun _ => ?_) (fun _ => ?_) <;> first | (exfalso; omega) | contradiction | conv => whnf)
     | (refine br_beq (fun _ => ?_) (fun _ => ?_) <;> first | (exfalso; omega) | contradiction | conv => whnf))
    refine Out.mk true [] [] ?_
    try (conv => whnf)
    rw [alike_eq a b i h1 h2 h3 fun _ _ => h5]
    exact ⟨rfl, rfl⟩
  ·try (conv => whnf)
   repeat' (first
    | (refine Pick.mk ?_ ?_ ?_; rotate_left; (focus (exact size_bs _)); conv => whnf)
    | (refine SeqJ.thru ?_; conv => whnf)
    | (refine br_dec (fun _ => ?_) (fun _ => ?_) <;> first | (exfalso; omega) | contradiction | conv => whnf)
    | (refine br_not ?_; conv => whnf)
    | (refine br_bne (fun _ => ?_) (fun _ => ?_) <;> first | (exfalso; omega) | contradiction | conv => whnf)
    | (refine br_beq (fun _ => ?_) (fun _ => ?_) <;> first | (exfalso; omega) | contradiction | conv => whnf))
   all_goals
    refine Out.mk true [] [] ?_
    try (conv => whnf)
    rw [alike_eq a b i h1 h2 h3 fun g1 g2 => absurd ⟨g1, g2⟩ h4]
    exact ⟨rfl, rfl⟩
theorem i_common (a b : List UInt8) (ha : a.length ≤ 2 ^ 40) (hb : b.length ≤ 2 ^ 40) : CallD Try.prog id_impl_common [vS (bs a), vS (bs b)] [] (vI .i64 (alike a b)) [] := by
 refine F_impl_common ?_
 try (conv => whnf)
 repeat (refine SeqJ.thru ?_; conv => whnf)
 refine LoopE.mk (fun i : Nat => mk [(0, vS (bs a)), (1, vS (bs b)), (5, vI .i64 i)] []) (fun i => i ≤ a.length ∧ i ≤ b.length ∧ a.take i = b.take i) (fun i => a.length - i) 0 (by simp) (LeX.of ?_) ?_
 ·try (conv => whnf)
  repeat (refine Need.mk ?_ ?_; (focus (first | omega | (simp; done))); conv => whnf)
  trivial
 ·rintro i ⟨h1, h2, h3⟩
  by_cases h4 : i < a.length ∧ i < b.length
  ·have ha' := byLt (a[i]'h4.1)
   by_cases h5 : a[i]'h4.1 = b[i]'h4.2
   ·have e : ((a[i]'h4.1).toNat : Int) = ((b[i]'h4.2).toNat : Int) := by rw [h5]
    try (conv => whnf)
    repeat' (first
     | (refine Pick.mk ?_ ?_ ?_; rotate_left; (focus (first | (refine bs_get _ _ ?_; omega) | exact size_bs _ | (refine wid ?_ ?_ <;> omega))); conv => whnf)
     | (refine SeqJ.thru ?_; conv => whnf)
     | (refine br_dec (fun _ => ?_) (fun _ => ?_) <;> first | (exfalso; omega) | contradiction | conv => whnf)
     | (refine br_not ?_; conv => whnf)
     | (refine br_bne (fun _ => ?_) (fun _ => ?_) <;> first | (exfalso; omega) | contradiction | conv => whnf)
     | (refine br_beq (fun _ => ?_) (fun _ => ?_) <;> first | (exfalso; omega) | contradiction | conv => whnf))
    ·refine Pick.mk (i + 1) ⟨⟨by omega, by omega, ?_⟩, by omega⟩ (LeX.of ?_)
     ·rw [List.take_succ_eq_append_getElem h4.1, List.take_succ_eq_append_getElem h4.2, h3, h5]
     ·try (conv => whnf)
      repeat (refine Need.mk ?_ ?_; (focus (first | omega | (simp; done))); conv => whnf)
      trivial
   ·have e : ((a[i]'h4.1).toNat : Int) ≠ ((b[i]'h4.2).toNat : Int) := fun e => h5 (UInt8.toNat.inj (by omega))
    try (conv => whnf)
    repeat' (first
     | (refine Pick.mk ?_ ?_ ?_; rotate_left; (focus (first | (refine bs_get _ _ ?_; omega) | exact size_bs _)); conv => whnf)
     | (refine SeqJ.thru ?_; conv => whnf)
     | (refine br_dec (fun _ => ?_) (fun _ => ?_) <;> first | (exfalso; omega) | contradiction | conv => whnf)
     | (refine br_not ?_; conv => whnf)
     | (refine br_bne (fun _ => ?_) (fun _ => ?_) <;> first | (exfalso; omega) | contradiction | conv => whnf)
     | (refine br_beq (fun _ => ?_) (fun _ => ?_) <;> first | (exfalso; omega) | contradiction | conv => whnf))
    refine Out.mk true [] [] ?_
    try (conv => whnf)
    rw [alike_eq a b i h1 h2 h3 fun _ _ => h5]
    exact ⟨rfl, rfl⟩
  ·try (conv => whnf)
   repeat' (first
    | (refine Pick.mk ?_ ?_ ?_; rotate_left; (focus (exact size_bs _)); conv => whnf)
    | (refine SeqJ.thru ?_; conv => whnf)
    | (refine br_dec (fun _ => ?_) (fun _ => ?_) <;> first | (exfalso; omega) | contradiction | conv => whnf)
    | (refine br_not ?_; conv => whnf)
    | (refine br_bne (fun _ => ?_) (fun _ => ?_) <;> first | (exfalso; omega) | contradiction | conv => whnf)
    | (refine br_beq (fun _ => ?_) (fun _ => ?_) <;> first | (exfalso; omega) | contradiction | conv => whnf))
   all_goals
    refine Out.mk true [] [] ?_
    try (conv => whnf)
    rw [alike_eq a b i h1 h2 h3 fun g1 g2 => absurd ⟨g1, g2⟩ h4]
    exact ⟨rfl, rfl⟩
end Go.Proofs.Ytpdjehnlejjfmaa.D
/- Lists of texts as bytes: written and read, by both. -/
namespace Go.Proofs.Ytpdjehnlejjfmaa.D
open Go.RowKit
set_option maxRecDepth 100000
set_option maxHeartbeats 4000000
set_option linter.unusedVariables false
set_option linter.unusedSimpArgs false

def lastT (l : List (List UInt8)) : List UInt8 := l.getLast?.getD []
theorem lastT_take {l : List (List UInt8)} {i : Nat} (h : i < l.length) : lastT (l.take (i + 1)) = l[i] := by
 rw [List.take_succ_eq_append_getElem h, lastT, List.getLast?_concat]; rfl
theorem putTs_take {l : List (List UInt8)} {i : Nat} (h : i < l.length) :
  putTs [] (l.take (i + 1)) = putTs [] (l.take i) ++ put (alike (lastT (l.take i)) l[i]) ++ put (l[i].length - alike (lastT (l.take i)) l[i]) ++ l[i].drop (alike (lastT (l.take i)) l[i]) := by
 rw [List.take_succ_eq_append_getElem h, putTs_append]
 simp [putTs, lastT, List.append_assoc]
theorem total_cons (t : List UInt8) (l : List (List UInt8)) : total (t :: l) = t.length + total l := by simp [total]
theorem total_append (a b : List (List UInt8)) : total (a ++ b) = total a + total b := by simp [total]
theorem total_get : ∀ {l : List (List UInt8)} {i : Nat} (h : i < l.length), l[i].length ≤ total l
 | t :: l, 0, _ => by rw [total_cons]; simp
 | t :: l, i + 1, h => by rw [total_cons]; have := total_get (l := l) (i := i) (by simpa using h); simp only [List.getElem_cons_succ]; omega
theorem total_take_le (l : List (List UInt8)) (i : Nat) : total (l.take i) ≤ total l := by
 conv => rhs; rw [← List.take_append_drop i l, total_append]
 omega
theorem lastT_le (l : List (List UInt8)) (i : Nat) : (lastT (l.take i)).length ≤ total l := by
 rcases Nat.eq_zero_or_pos i with h | h
 ·subst h; simp [lastT]
 ·rcases Nat.lt_or_ge (i - 1) l.length with h1 | h1
  ·have := lastT_take h1
   rw [show i - 1 + 1 = i by omega] at this
   rw [this]; exact total_get h1
  ·rw [List.take_of_length_le (by omega)]
   rcases l.eq_nil_or_concat with rfl | ⟨a, t, rfl⟩
   ·simp [lastT]
   ·simp [lastT, total]
theorem putTs_len : ∀ (ts : List (List UInt8)) (last : List UInt8), total ts ≤ 2 ^ 40 → (putTs last ts).length ≤ 18 * ts.length + total ts
 | [], _, _ => by simp [putTs, total]
 |t :: ts, last, h => by
  rw [total_cons] at h
  have h1 := putTs_len ts t (by omega)
  have h2 := alike_le last t
  have h3 := put_len (n := alike last t) (by omega)
  have h4 := put_len (n := t.length - alike last t) (by omega)
  simp only [putTs, List.length_append, List.length_drop, total_cons, List.length_cons]
  omega
theorem putTs_take_len {ts : List (List UInt8)} (h : total ts ≤ 2 ^ 40) (i : Nat) : (putTs [] (ts.take i)).length ≤ 18 * ts.length + total ts := by
 have h1 := total_take_le ts i
 have := putTs_len (ts.take i) [] (by omega)
 have h2 : (ts.take i).length ≤ ts.length := by simp; omega
 omega
theorem castN (a b : Nat) (h : b ≤ a) : (a : Int) - (b : Int) = ((a - b : Nat) : Int) := by omega
theorem i_appendTexts (a : List UInt8) (n : Nat) (ts : List (List UInt8)) (hn : n = a.length) (ha : n ≤ 2 ^ 40) (hl : ts.length ≤ 2 ^ 30) (ht : total ts ≤ 2 ^ 40) :
  CallMD Try.prog id_impl_appendTexts [.one (.os (.v 0) 1 0 n), vTs ts] [.own 1 (a.map byD)] [0] (.one (.os (.v 0) 1 0 (a ++ putT ts).length)) [.own 1 ((a ++ putT ts).map byD)] := by
 subst hn
 refine F_impl_appendTexts ?_
 try (conv => whnf)
 repeat (refine Pick.mk ?_ ?_ ?_; rotate_left; (focus (exact List.length_map _)); conv => whnf)
 refine Hand.mk [0] ?_
 try (conv => whnf)
 refine CallW.m (i_appendInt a _ ts.length rfl (by omega) (by omega)) ?_
 try (conv => whnf)
 repeat (refine Pick.mk ?_ ?_ ?_; rotate_left; (focus (exact List.length_map _)); conv => whnf)
 refine LoopE.mk (fun i : Nat => mk [(0, .one (.os (.v 0) 1 0 ((a ++ put ts.length) ++ putTs [] (ts.take i)).length)), (13, vTs ts), (14, vI .i64 ts.length), (5, vS (bs (lastT (ts.take i)))), (15, vI .i64 i)] [(0, .own 1 (((a ++ put ts.length) ++ putTs [] (ts.take i)).map byD))] [0])
  (fun i => i ≤ ts.length) (fun i => ts.length - i) 0 (by omega) (LeX.of ?_) ?_
 ·try (conv => whnf)
  repeat (refine Need.mk ?_ ?_; (focus (first | omega | (simp; done) | rfl | (simp [putTs, lastT]; done))); conv => whnf)
  trivial
 ·intro i hi
  have b1 := putTs_take_len ht i
  have b2 := put_len (n := ts.length) (by omega)
  have b6 := lastT_le ts i
  rcases Nat.lt_or_ge i ts.length with hlt | hge
  ·have b3 := total_get hlt
   obtain ⟨a1, a2⟩ := alike_le (lastT (ts.take i)) ts[i]
   have b4 := put_len (n := alike (lastT (ts.take i)) ts[i]) (by omega)
   have b5 := put_len (n := ts[i].length - alike (lastT (ts.take i)) ts[i]) (by omega)
   try (conv => whnf)
   repeat' (first
    | (refine Pick.mk ?_ ?_ ?_; rotate_left; (focus ((refine pick_nat _ _ _ ?_; omega))); conv => whnf)
    | (refine SeqJ.thru ?_; conv => whnf)
    | (refine br_dec (fun _ => ?_) (fun _ => ?_) <;> first | (exfalso; omega) | contradiction | conv => whnf)
    | (refine br_not ?_; conv => whnf)
    | (refine br_bne (fun _ => ?_) (fun _ => ?_) <;> first | (exfalso; omega) | contradiction | conv => whnf)
    | (refine br_beq (fun _ => ?_) (fun _ => ?_) <;> first | (exfalso; omega) | contradiction | conv => whnf))
   refine Hand.mk [] ?_
   try (conv => whnf)
   refine CallW.d (i_common (lastT (ts.take i)) ts[i] (by omega) (by omega)) ?_
   try (conv => whnf)
   refine Hand.mk [0] ?_
   try (conv => whnf)
   refine CallW.m (i_appendInt _ _ (alike (lastT (ts.take i)) ts[i]) rfl (by simp; omega) (by omega)) ?_
   try (conv => whnf)
   repeat (refine Pick.mk ?_ ?_ ?_; rotate_left; (focus (first | exact size_bs _ | (refine wid ?_ ?_ <;> omega))); conv => whnf)
   rw [castN _ _ a2]
   refine Hand.mk [0] ?_
   try (conv => whnf)
   refine CallW.m (i_appendInt _ _ (ts[i].length - alike (lastT (ts.take i)) ts[i]) rfl (by simp; omega) (by omega)) ?_
   try (conv => whnf)
   repeat (first
    | (refine Need.mk ?_ ?_; (focus ((simp; omega))); conv => whnf)
    | (refine Pick.mk ?_ ?_ ?_; rotate_left; (focus (first | exact bs_extractN _ _ | (refine bnd_id ?_; omega) | exact size_bs _ | (simp only [List.length_map, List.length_append, List.length_cons, List.length_nil, List.length_replicate, Nat.zero_add]; rfl) | (refine wid ?_ ?_ <;> omega) | (refine SlOf.full ?_; first | (simp; done) | (simp; omega)))); conv => whnf))
   refine Pick.mk (i + 1) ⟨by omega, by omega⟩ (LeX.of ?_)
   rw [lastT_take hlt]
   have e := putTs_take hlt
   rw [e, ← List.append_assoc, ← List.append_assoc, ← List.append_assoc]
   try (conv => whnf)
   repeat (refine Need.mk ?_ ?_; (focus (first | omega | (simp; done) | (simp; omega))); conv => whnf)
   trivial
  ·try (conv => whnf)
   repeat' (first
    | (refine SeqJ.thru ?_; conv => whnf)
    | (refine br_dec (fun _ => ?_) (fun _ => ?_) <;> first | (exfalso; omega) | contradiction | conv => whnf)
    | (refine br_not ?_; conv => whnf)
    | (refine br_bne (fun _ => ?_) (fun _ => ?_) <;> first | (exfalso; omega) | contradiction | conv => whnf)
    | (refine br_beq (fun _ => ?_) (fun _ => ?_) <;> first | (exfalso; omega) | contradiction | conv => whnf))
   refine Out.mk false [0, 1, 2, 3, 4] [] ?_
   try (conv => whnf)
   repeat (refine Need.mk ?_ ?_; (focus ((first | exact flat_by _ | exact flat_in _ | exact flat_st _ | exact flat_ts _ | exact flat_bo _ | exact flat_cl rfl))); conv => whnf)
   rw [List.take_of_length_le hge]
   exact ⟨by simp [putT], by simp [putT]⟩
end Go.Proofs.Ytpdjehnlejjfmaa.D
/- Lists of texts written, by both: with their limits. -/
namespace Go.Proofs.Ytpdjehnlejjfmaa.D
open Go.RowKit
set_option maxRecDepth 100000
set_option maxHeartbeats 4000000
set_option linter.unusedVariables false
set_option linter.unusedSimpArgs false

theorem putTs_mono (ts : List (List UInt8)) (i : Nat) : (putTs [] (ts.take i)).length ≤ (putTs [] ts).length := by
 have := congrArg List.length (putTs_append [] (ts.take i) (ts.drop i))
 rw [List.take_append_drop, List.length_append] at this
 omega
theorem s_l01PutTexts (ts : List (List UInt8)) (hl : ts.length ≤ 2 ^ 30) (ht : total ts ≤ 2 ^ 40) :
  CallM Try.prog id_spec_l01PutTexts [vTs ts] [] [] true fun r Lo => ∃ l : List UInt8, Lo = [.own 1 (l.map byD)] ∧ r = .one (.os (.v 0) 1 0 l.length) ∧ (l = putT ts ∨ (1048576 < l.length ∧ 1048576 < (putT ts).length)) := by
 refine F_spec_l01PutTexts ?_
 try (conv => whnf)
 repeat (refine Pick.mk ?_ ?_ ?_; rotate_left; (focus (exact List.length_map _)); conv => whnf)
 have b2 := put_len (n := ts.length) (by omega)
 refine Hand.mk [] ?_
 try (conv => whnf)
 refine CallW.d (s_l01Put ts.length (by omega)) ?_
 try (conv => whnf)
 refine LoopE.mk (fun i : Nat => mk [(0, vTs ts), (3, .one (.os (.v 8224) 1 0 (put ts.length ++ putTs [] (ts.take i)).length)), (4, vS (bs (lastT (ts.take i)))), (5, vI .i64 i)] [(8224, .own 1 ((put ts.length ++ putTs [] (ts.take i)).map byD))])
  (fun i => i ≤ ts.length) (fun i => ts.length - i) 0 (by omega) (LeX.of ?_) ?_
 ·try (conv => whnf)
  repeat (refine Need.mk ?_ ?_; (focus (first | omega | (simp; done) | rfl | (simp [putTs, lastT]; done))); conv => whnf)
  trivial
 ·intro i hi
  have b1 := putTs_take_len ht i
  have b6 := lastT_le ts i
  rcases Nat.lt_or_ge i ts.length with hlt | hge
  ·have b3 := total_get hlt
   obtain ⟨a1, a2⟩ := alike_le (lastT (ts.take i)) ts[i]
   have b4 := put_len (n := alike (lastT (ts.take i)) ts[i]) (by omega)
   have b5 := put_len (n := ts[i].length - alike (lastT (ts.take i)) ts[i]) (by omega)
   have e := putTs_take hlt
   have b7 := putTs_mono ts (i + 1)
   try (conv => whnf)
   repeat' (first
    | (refine Pick.mk ?_ ?_ ?_; rotate_left; (focus (first | exact List.length_map _ | (refine pick_nat _ _ _ ?_; omega))); conv => whnf)
    | (refine SeqJ.thru ?_; conv => whnf)
    | (refine br_dec (fun _ => ?_) (fun _ => ?_) <;> first | (exfalso; omega) | contradiction | conv => whnf)
    | (refine br_not ?_; conv => whnf)
    | (refine br_bne (fun _ => ?_) (fun _ => ?_) <;> first | (exfalso; omega) | contradiction | conv => whnf)
    | (refine br_beq (fun _ => ?_) (fun _ => ?_) <;> first | (exfalso; omega) | contradiction | conv => whnf))
   refine Hand.mk [] ?_
   try (conv => whnf)
   refine CallW.d (s_l01Alike (lastT (ts.take i)) ts[i] (by omega) (by omega)) ?_
   try (conv => whnf)
   refine Hand.mk [] ?_
   try (conv => whnf)
   refine CallW.d (s_l01Put (alike (lastT (ts.take i)) ts[i]) (by omega)) ?_
   try (conv => whnf)
   repeat (first
    | (refine Need.mk ?_ ?_; (focus (first | omega | (first | exact fz_self _ _ (fun _ => rfl) | exact fz_pl rfl | (refine Fz.append ?_ ?_ <;> first | exact fz_self _ _ (fun _ => rfl) | exact fz_pl rfl) | (refine Fz.append (Fz.append ?_ ?_) ?_ <;> first | exact fz_self _ _ (fun _ => rfl) | exact fz_pl rfl)))); conv => whnf)
    | (refine Pick.mk ?_ ?_ ?_; rotate_left; (focus (first | exact size_bs _ | (simp only [List.length_map, List.length_append, List.length_cons, List.length_nil, List.length_replicate, Nat.zero_add]; rfl) | with_reducible exact map_app _ _ _ | (refine wid ?_ ?_ <;> omega) | (refine pick_nat _ _ _ ?_; omega) | (refine SlOf.full ?_; first | (simp; done) | (simp; omega)))); conv => whnf))
   rw [castN _ _ a2]
   refine Hand.mk [] ?_
   try (conv => whnf)
   refine CallW.d (s_l01Put (ts[i].length - alike (lastT (ts.take i)) ts[i]) (by omega)) ?_
   try (conv => whnf)
   repeat (first
    | (refine Need.mk ?_ ?_; (focus (first | omega | (simp; omega) | (first | exact fz_self _ _ (fun _ => rfl) | exact fz_pl rfl | (refine Fz.append ?_ ?_ <;> first | exact fz_self _ _ (fun _ => rfl) | exact fz_pl rfl) | (refine Fz.append (Fz.append ?_ ?_) ?_ <;> first | exact fz_self _ _ (fun _ => rfl) | exact fz_pl rfl)))); conv => whnf)
    | (refine Pick.mk ?_ ?_ ?_; rotate_left; (focus (first | exact bs_extractN _ _ | (refine bnd_id ?_; omega) | exact size_bs _ | (simp only [List.length_map, List.length_append, List.length_cons, List.length_nil, List.length_replicate, Nat.zero_add]; rfl) | with_reducible exact map_app _ _ _ | (refine pick_nat _ _ _ ?_; omega) | (refine SlOf.full ?_; first | (simp; done) | (simp; omega)))); conv => whnf))
   have e8 : put ts.length ++ putTs [] (ts.take (i + 1)) = put ts.length ++ putTs [] (ts.take i) ++ put (alike (lastT (ts.take i)) ts[i]) ++ put (ts[i].length - alike (lastT (ts.take i)) ts[i]) ++ ts[i].drop (alike (lastT (ts.take i)) ts[i]) := by
    rw [e, ← List.append_assoc, ← List.append_assoc, ← List.append_assoc]
   have e9 := congrArg List.length e8
   have e10 : (putT ts).length = (put ts.length).length + (putTs [] ts).length := by simp [putT]
   simp only [List.length_append, List.length_drop] at e9
   try (conv => whnf)
   repeat' (first
    | (refine Pick.mk ?_ ?_ ?_; rotate_left; (focus ((refine wid ?_ ?_ <;> omega))); conv => whnf)
    | (refine br_dec (fun _ => ?_) (fun _ => ?_) <;> first | (exfalso; omega) | contradiction | conv => whnf)
    | (refine br_not ?_; conv => whnf)
    | (refine br_bne (fun _ => ?_) (fun _ => ?_) <;> first | (exfalso; omega) | contradiction | conv => whnf)
    | (refine br_beq (fun _ => ?_) (fun _ => ?_) <;> first | (exfalso; omega) | contradiction | conv => whnf))
   ·refine Out.mk false [0, 1, 2, 3, 4] [] ?_
    try (conv => whnf)
    repeat (refine Need.mk ?_ ?_; (focus ((refine flat_app ?_ ?_ <;> (first | exact flat_by _ | exact flat_in _ | exact flat_st _ | exact flat_ts _ | exact flat_bo _ | exact flat_cl rfl)))); conv => whnf)
    simp only [List.length_drop] at *
    exact ⟨put ts.length ++ putTs [] (ts.take (i + 1)), by rw [e8]; simp, by rw [e8]; simp; omega, .inr ⟨by rw [e8]; simp; omega, by omega⟩⟩
   ·refine Pick.mk (i + 1) ⟨by omega, by omega⟩ (LeX.of ?_)
    rw [lastT_take hlt, e8]
    try (conv => whnf)
    repeat (refine Need.mk ?_ ?_; (focus (first | omega | (simp; done) | (simp; omega))); conv => whnf)
    trivial
  ·try (conv => whnf)
   repeat' (first
    | (refine Pick.mk ?_ ?_ ?_; rotate_left; (focus (exact List.length_map _)); conv => whnf)
    | (refine SeqJ.thru ?_; conv => whnf)
    | (refine br_dec (fun _ => ?_) (fun _ => ?_) <;> first | (exfalso; omega) | contradiction | conv => whnf)
    | (refine br_not ?_; conv => whnf)
    | (refine br_bne (fun _ => ?_) (fun _ => ?_) <;> first | (exfalso; omega) | contradiction | conv => whnf)
    | (refine br_beq (fun _ => ?_) (fun _ => ?_) <;> first | (exfalso; omega) | contradiction | conv => whnf))
   refine Out.mk false [0, 1, 2, 3, 4] [] ?_
   try (conv => whnf)
   repeat (refine Need.mk ?_ ?_; (focus ((first | exact flat_by _ | exact flat_in _ | exact flat_st _ | exact flat_ts _ | exact flat_bo _ | exact flat_cl rfl))); conv => whnf)
   rw [List.take_of_length_le hge]
   exact ⟨_, rfl, rfl, .inl rfl⟩
end Go.Proofs.Ytpdjehnlejjfmaa.D
