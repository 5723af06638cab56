/- Operations told to be in order, by both. -/
import Derived.Test.YtpdjehnlejjfmaaJ5
set_option linter.unusedVariables false
set_option linter.unusedSimpArgs false
namespace Go.Proofs.Ytpdjehnlejjfmaa.D
open Go.RowKit
set_option maxRecDepth 100000
set_option maxHeartbeats 4000000
set_option linter.unusedVariables false
set_option linter.unusedSimpArgs false

theorem own_at {o : OpV} (h : VecOk o.deps) (ha : actOk o.actor) : ∃ hlt : o.actor.toNat < o.deps.length, o.deps.getD o.actor.toNat 0 = o.deps[o.actor.toNat] := by
 have := h.1
 refine ⟨by omega, ?_⟩
 simp [List.getD, show o.actor.toNat < o.deps.length by omega]
theorem i_opOK (o : OpV) (hk : o.key.length ≤ 2 ^ 40) (ht : o.text.length ≤ 2 ^ 40) : CallD Try.prog id_impl_opOK [vO o] [] (vB (decide (OpOk o))) [] := by
 refine F_impl_opOK ?_
 try (conv => whnf)
 repeat (refine SeqJ.thru ?_; conv => whnf)
 refine Hand.mk [] ?_
 try (conv => whnf)
 refine CallW.d (i_stamp o) ?_
 try (conv => whnf)
 refine Hand.mk [] ?_
 try (conv => whnf)
 refine CallW.d (i_StampOK o.time o.actor) ?_
 try (conv => whnf)
 by_cases hst : stOk o.time o.actor
 ·obtain ⟨⟨t1, t2⟩, a1, a2⟩ := id hst
  by_cases hv : VecOk o.deps
  ·have hvl := hv.1
   obtain ⟨hlt, hown⟩ := own_at hv ⟨a1, a2⟩
   try (conv => whnf)
   repeat' (first
    | (refine br_dec (fun _ => ?_) (fun _ => ?_) <;> first | (exfalso; omega) | contradiction | conv => whnf)
    | (refine br_not ?_; conv => whnf)
    | (refine br_bne (fun _ => ?_) (fun _ => ?_) <;> first | (exfalso; omega) | contradiction | conv => whnf)
    | (refine br_beq (fun _ => ?_) (fun _ => ?_) <;> first | (exfalso; omega) | contradiction | conv => whnf))
   rotate_left 2
   ·refine Hand.mk [] ?_
    try (conv => whnf)
    refine CallW.d (i_VecOK o.deps) ?_
    try (conv => whnf)
    try (conv => whnf)
    repeat' (first
     | (refine Pick.mk ?_ ?_ ?_; rotate_left; (focus (first | exact size_bs _ | (refine wid ?_ ?_ <;> omega) | (refine pick_int _ _ _ ?_ ?_ <;> omega))); conv => whnf)
     | (refine SeqJ.thru ?_; conv => whnf)
     | (refine br_dec (fun _ => ?_) (fun _ => ?_) <;> first | (exfalso; omega) | contradiction | conv => whnf)
     | (refine br_not ?_; conv => whnf)
     | (refine br_bne (fun _ => ?_) (fun _ => ?_) <;> first | (exfalso; omega) | contradiction | conv => whnf)
     | (refine br_beq (fun _ => ?_) (fun _ => ?_) <;> first | (exfalso; omega) | contradiction | conv => whnf))
    rotate_right 2
    ·by_cases hz : noSt o.atT o.atA
     ·have hb : (o.atT == 0 && o.atA == 0) = true := by simp [hz.1, hz.2]
      refine br_true hb ?_
      have hP : kindOk o → OpOk o := fun hk => ⟨hst, by omega, hv, by omega, by omega, by omega, by omega, by omega, .inl hz, hk⟩
      have hN : ¬ kindOk o → ¬ OpOk o := fun h g => h g.kind
      try (conv => whnf)
      repeat' (first
       | (refine Need.mk ?_ ?_; (focus (((conv => whnf); (repeat (first | (refine Need.mk (by first | rfl | omega | (simp; done)) ?_; conv => whnf) | (refine Pick.mk ?_ ?_ ?_; rotate_left; (focus (first | with_reducible exact xor_u8 _ _ | (with_reducible refine xor_i64 ?_ ?_; all_goals omega) | (with_reducible refine xor_u32 ?_ ?_; all_goals omega) | assumption | with_reducible exact set_byN _ _ _ _ | with_reducible exact set_byI _ _ _ _ | with_reducible exact set_inN _ _ _ _ | with_reducible exact set_inI _ _ _ _ | with_reducible exact set_stN _ _ _ _ | with_reducible exact set_tsN _ _ _ _ | with_reducible exact set_tsI _ _ _ _ | with_reducible exact set_boN _ _ _ _ | with_reducible exact set_boI _ _ _ _ | (with_reducible refine get_mapN _ _ _ ?_; first | omega | (simp; omega)) | (with_reducible refine get_mapI _ _ _ ?_ ?_ <;> first | omega | (simp; omega)) | exact bs_beq _ _ | exact bs_less _ _ | exact bs_leq _ _ | with_reducible exact bs_app _ _ | (refine bs_get _ _ ?_; omega) | (refine bs_int _ _ ?_ ?_ <;> omega) | with_reducible exact sl_map0 _ _ _ | with_reducible exact sl_mapN _ _ _ | with_reducible exact sl_map _ _ _ _ | exact bs_extract0 _ _ | exact bs_extractN _ _ | exact bs_extract _ _ _ | (refine bnd_id ?_; omega) | (refine bnd_sub ?_ ?_ <;> omega) | (refine bnd_add ?_; omega) | (refine bnd_subN ?_ ?_ <;> omega) | (refine bnd_int ?_ ?_ <;> omega) | ((show @Eq Nat (_ + Int.toNat _ * _) _); simp only [Int.toNat_natCast, Nat.zero_add, Nat.mul_one]; rfl) | ((show @Eq (List _) (List.set [_] _ _) _); simp only [List.set_cons_zero]; rfl) | exact List.length_map _ | exact size_bs _ | (simp only [List.length_map, List.length_append, List.length_cons, List.length_nil, List.length_replicate, Nat.zero_add]; rfl) | with_reducible exact List.nil_append _ | with_reducible exact map_app _ _ _ | exact map_snoc byD _ _ | exact map_snoc inD _ _ | exact map_snoc stD _ _ | exact map_snoc tsD _ _ | (simp only [chunks]; rfl) | (refine wid ?_ ?_ <;> omega) | exact wby _ | with_reducible exact wby32 _ | with_reducible exact wu32 _ | exact wby64 _ | exact shr8 _ | exact shr16 _ | exact shr24 _ | exact shr32 _ | (refine tmodn ?_; omega) | (refine wdiv ?_ ?_ ?_ <;> omega) | exact wbyte _ | exact natlit _ | exact rep_by _ | exact rep_in _ | exact rep_bo _ | exact rep_st _ | (refine pick_nat _ _ _ ?_; omega) | (refine pick_int _ _ _ ?_ ?_ <;> omega) | (refine SlOf.full ?_; first | (simp; done) | (simp; omega)) | (with_reducible refine SlOf.pre _ _ ?_; first | omega | (simp; omega)) | (refine SlF.self _ _ ?_ ?_; (first | rfl | omega | (simp; done) | (simp; omega)); (exact fun _ => rfl)) | (refine SlF.pre _ _ ?_ ?_; (first | omega | (simp; omega)); (exact fun _ => rfl)) | (refine SlF.same ?_ ?_; (first | rfl | omega | (simp; done) | (simp; omega)); (first | exact fz_self _ _ (fun _ => rfl) | exact fz_pl rfl | (refine Fz.append ?_ ?_ <;> first | exact fz_self _ _ (fun _ => rfl) | exact fz_pl rfl) | (refine Fz.append (Fz.append ?_ ?_) ?_ <;> first | exact fz_self _ _ (fun _ => rfl) | exact fz_pl rfl))) | (simp only [Int.toNat_natCast, Nat.zero_add, Nat.mul_one]; rfl) | ((show @Eq (Option CV) _ _); rfl) | ((fail_if_success (show @Eq (Option _) _ _)); rfl) | ((show @Eq (Option _) _ _); simp only [List.getElem?_cons_zero, List.getElem?_cons_succ]; done) | ((show @Eq (Option _) _ _); simp only [List.getElem?_cons_zero, List.getElem?_cons_succ]; rfl) | with_reducible rfl)); conv => whnf))); exact Done.mk trivial))); conv => whnf)
       | (refine Pick.mk ?_ ?_ ?_; rotate_left; (focus (exact bs_beq _ _)); conv => whnf)
       | (refine br_dec (fun _ => ?_) (fun _ => ?_) <;> first | contradiction | conv => whnf)
       | (refine br_not ?_; conv => whnf)
       | (refine br_bne (fun _ => ?_) (fun _ => ?_) <;> first | contradiction | conv => whnf)
       | (refine br_beq (fun _ => ?_) (fun _ => ?_) <;> first | contradiction | conv => whnf))
      all_goals
       first
        |skip
         refine Out.mk true [] [] ?_
         try (conv => whnf)
         try rw [hb]
         first
          | exact ⟨dec_t (hP (by first | exact .inl ⟨by assumption, by assumption, hz⟩ | exact .inr (.inr (.inl ⟨by assumption, ⟨by assumption, by assumption⟩, by assumption, hz⟩)) | exact .inr (.inr (.inr ⟨by assumption, ⟨by assumption, by assumption⟩, hz⟩)))), rfl⟩
          | exact ⟨dec_f (hN (by rintro (⟨k1, k2, k3⟩ | ⟨k1, ⟨k2, k4⟩, k3⟩ | ⟨k1, ⟨k2, k4⟩, k3, k5⟩ | ⟨k1, ⟨k2, k4⟩, k3⟩) <;> first | contradiction | omega)), rfl⟩
        |skip
         refine Hand.mk [] ?_
         try (conv => whnf)
         refine CallW.d (i_charOK o.n) ?_
         try (conv => whnf)
         refine Out.mk true [] [] ?_
         try (conv => whnf)
         exact ⟨dec_b ⟨fun h => hP (.inr (.inl ⟨by assumption, ⟨by assumption, by assumption⟩, h⟩)), fun h => by
          rcases h.kind with ⟨k1, k2, k3⟩ | ⟨k1, ⟨k2, k4⟩, k3⟩ | ⟨k1, ⟨k2, k4⟩, k3, k5⟩ | ⟨k1, ⟨k2, k4⟩, k3⟩ <;> first | exact k3 | omega⟩, rfl⟩
     ·have hb : (o.atT == 0 && o.atA == 0) = false := by
       cases h : (o.atT == 0 && o.atA == 0) with
       | false => rfl
       | true => simp at h; exact absurd h hz
      refine br_false hb ?_
      by_cases hs2 : stOk o.atT o.atA
      ·by_cases hsl : stLt o.atT o.atA o.time o.actor
       ·try (conv => whnf)
        refine Hand.mk [] ?_
        try (conv => whnf)
        refine CallW.d (i_StampOK o.atT o.atA) ?_
        try (conv => whnf)
        try (conv => whnf)
        repeat' (first
         | (refine br_dec (fun _ => ?_) (fun _ => ?_) <;> first | contradiction | conv => whnf)
         | (refine br_not ?_; conv => whnf)
         | (refine br_bne (fun _ => ?_) (fun _ => ?_) <;> first | contradiction | conv => whnf)
         | (refine br_beq (fun _ => ?_) (fun _ => ?_) <;> first | contradiction | conv => whnf))
        refine Hand.mk [] ?_
        try (conv => whnf)
        refine CallW.d (i_stamp o) ?_
        try (conv => whnf)
        repeat (refine Need.mk ?_ ?_; (focus (((conv => whnf); (repeat (first | (refine Need.mk (by first | rfl | omega | (simp; done)) ?_; conv => whnf) | (refine Pick.mk ?_ ?_ ?_; rotate_left; (focus (first | with_reducible exact xor_u8 _ _ | (with_reducible refine xor_i64 ?_ ?_; all_goals omega) | (with_reducible refine xor_u32 ?_ ?_; all_goals omega) | assumption | with_reducible exact set_byN _ _ _ _ | with_reducible exact set_byI _ _ _ _ | with_reducible exact set_inN _ _ _ _ | with_reducible exact set_inI _ _ _ _ | with_reducible exact set_stN _ _ _ _ | with_reducible exact set_tsN _ _ _ _ | with_reducible exact set_tsI _ _ _ _ | with_reducible exact set_boN _ _ _ _ | with_reducible exact set_boI _ _ _ _ | (with_reducible refine get_mapN _ _ _ ?_; first | omega | (simp; omega)) | (with_reducible refine get_mapI _ _ _ ?_ ?_ <;> first | omega | (simp; omega)) | exact bs_beq _ _ | exact bs_less _ _ | exact bs_leq _ _ | with_reducible exact bs_app _ _ | (refine bs_get _ _ ?_; omega) | (refine bs_int _ _ ?_ ?_ <;> omega) | with_reducible exact sl_map0 _ _ _ | with_reducible exact sl_mapN _ _ _ | with_reducible exact sl_map _ _ _ _ | exact bs_extract0 _ _ | exact bs_extractN _ _ | exact bs_extract _ _ _ | (refine bnd_id ?_; omega) | (refine bnd_sub ?_ ?_ <;> omega) | (refine bnd_add ?_; omega) | (refine bnd_subN ?_ ?_ <;> omega) | (refine bnd_int ?_ ?_ <;> omega) | ((show @Eq Nat (_ + Int.toNat _ * _) _); simp only [Int.toNat_natCast, Nat.zero_add, Nat.mul_one]; rfl) | ((show @Eq (List _) (List.set [_] _ _) _); simp only [List.set_cons_zero]; rfl) | exact List.length_map _ | exact size_bs _ | (simp only [List.length_map, List.length_append, List.length_cons, List.length_nil, List.length_replicate, Nat.zero_add]; rfl) | with_reducible exact List.nil_append _ | with_reducible exact map_app _ _ _ | exact map_snoc byD _ _ | exact map_snoc inD _ _ | exact map_snoc stD _ _ | exact map_snoc tsD _ _ | (simp only [chunks]; rfl) | (refine wid ?_ ?_ <;> omega) | exact wby _ | with_reducible exact wby32 _ | with_reducible exact wu32 _ | exact wby64 _ | exact shr8 _ | exact shr16 _ | exact shr24 _ | exact shr32 _ | (refine tmodn ?_; omega) | (refine wdiv ?_ ?_ ?_ <;> omega) | exact wbyte _ | exact natlit _ | exact rep_by _ | exact rep_in _ | exact rep_bo _ | exact rep_st _ | (refine pick_nat _ _ _ ?_; omega) | (refine pick_int _ _ _ ?_ ?_ <;> omega) | (refine SlOf.full ?_; first | (simp; done) | (simp; omega)) | (with_reducible refine SlOf.pre _ _ ?_; first | omega | (simp; omega)) | (refine SlF.self _ _ ?_ ?_; (first | rfl | omega | (simp; done) | (simp; omega)); (exact fun _ => rfl)) | (refine SlF.pre _ _ ?_ ?_; (first | omega | (simp; omega)); (exact fun _ => rfl)) | (refine SlF.same ?_ ?_; (first | rfl | omega | (simp; done) | (simp; omega)); (first | exact fz_self _ _ (fun _ => rfl) | exact fz_pl rfl | (refine Fz.append ?_ ?_ <;> first | exact fz_self _ _ (fun _ => rfl) | exact fz_pl rfl) | (refine Fz.append (Fz.append ?_ ?_) ?_ <;> first | exact fz_self _ _ (fun _ => rfl) | exact fz_pl rfl))) | (simp only [Int.toNat_natCast, Nat.zero_add, Nat.mul_one]; rfl) | ((show @Eq (Option CV) _ _); rfl) | ((fail_if_success (show @Eq (Option _) _ _)); rfl) | ((show @Eq (Option _) _ _); simp only [List.getElem?_cons_zero, List.getElem?_cons_succ]; done) | ((show @Eq (Option _) _ _); simp only [List.getElem?_cons_zero, List.getElem?_cons_succ]; rfl) | with_reducible rfl)); conv => whnf))); exact Done.mk trivial))); conv => whnf)
        refine Hand.mk [] ?_
        try (conv => whnf)
        refine CallW.d (i_StampLess o.atT o.atA o.time o.actor) ?_
        try (conv => whnf)
        have hP : kindOk o → OpOk o := fun hk => ⟨hst, by omega, hv, by omega, by omega, by omega, by omega, by omega, .inr ⟨hs2, hsl⟩, hk⟩
        have hN : ¬ kindOk o → ¬ OpOk o := fun h g => h g.kind
        try (conv => whnf)
        repeat' (first
         | (refine Pick.mk ?_ ?_ ?_; rotate_left; (focus (exact bs_beq _ _)); conv => whnf)
         | (refine br_dec (fun _ => ?_) (fun _ => ?_) <;> first | contradiction | conv => whnf)
         | (refine br_not ?_; conv => whnf)
         | (refine br_bne (fun _ => ?_) (fun _ => ?_) <;> first | contradiction | conv => whnf)
         | (refine br_beq (fun _ => ?_) (fun _ => ?_) <;> first | contradiction | conv => whnf))
        all_goals
         first
          |skip
           refine Out.mk true [] [] ?_
           try (conv => whnf)
           try rw [hb]
           first
            | exact ⟨dec_t (hP (by first | exact .inl ⟨by assumption, by assumption, hz⟩ | exact .inr (.inr (.inl ⟨by assumption, ⟨by assumption, by assumption⟩, by assumption, hz⟩)) | exact .inr (.inr (.inr ⟨by assumption, ⟨by assumption, by assumption⟩, hz⟩)))), rfl⟩
            | exact ⟨dec_f (hN (by rintro (⟨k1, k2, k3⟩ | ⟨k1, ⟨k2, k4⟩, k3⟩ | ⟨k1, ⟨k2, k4⟩, k3, k5⟩ | ⟨k1, ⟨k2, k4⟩, k3⟩) <;> first | contradiction | omega)), rfl⟩
          |skip
           refine Hand.mk [] ?_
           try (conv => whnf)
           refine CallW.d (i_charOK o.n) ?_
           try (conv => whnf)
           refine Out.mk true [] [] ?_
           try (conv => whnf)
           exact ⟨dec_b ⟨fun h => hP (.inr (.inl ⟨by assumption, ⟨by assumption, by assumption⟩, h⟩)), fun h => by
            rcases h.kind with ⟨k1, k2, k3⟩ | ⟨k1, ⟨k2, k4⟩, k3⟩ | ⟨k1, ⟨k2, k4⟩, k3, k5⟩ | ⟨k1, ⟨k2, k4⟩, k3⟩ <;> first | exact k3 | omega⟩, rfl⟩
       ·try (conv => whnf)
        refine Hand.mk [] ?_
        try (conv => whnf)
        refine CallW.d (i_StampOK o.atT o.atA) ?_
        try (conv => whnf)
        try (conv => whnf)
        repeat' (first
         | (refine br_dec (fun _ => ?_) (fun _ => ?_) <;> first | contradiction | conv => whnf)
         | (refine br_not ?_; conv => whnf)
         | (refine br_bne (fun _ => ?_) (fun _ => ?_) <;> first | contradiction | conv => whnf)
         | (refine br_beq (fun _ => ?_) (fun _ => ?_) <;> first | contradiction | conv => whnf))
        refine Hand.mk [] ?_
        try (conv => whnf)
        refine CallW.d (i_stamp o) ?_
        try (conv => whnf)
        repeat (refine Need.mk ?_ ?_; (focus (((conv => whnf); (repeat (first | (refine Need.mk (by first | rfl | omega | (simp; done)) ?_; conv => whnf) | (refine Pick.mk ?_ ?_ ?_; rotate_left; (focus (first | with_reducible exact xor_u8 _ _ | (with_reducible refine xor_i64 ?_ ?_; all_goals omega) | (with_reducible refine xor_u32 ?_ ?_; all_goals omega) | assumption | with_reducible exact set_byN _ _ _ _ | with_reducible exact set_byI _ _ _ _ | with_reducible exact set_inN _ _ _ _ | with_reducible exact set_inI _ _ _ _ | with_reducible exact set_stN _ _ _ _ | with_reducible exact set_tsN _ _ _ _ | with_reducible exact set_tsI _ _ _ _ | with_reducible exact set_boN _ _ _ _ | with_reducible exact set_boI _ _ _ _ | (with_reducible refine get_mapN _ _ _ ?_; first | omega | (simp; omega)) | (with_reducible refine get_mapI _ _ _ ?_ ?_ <;> first | omega | (simp; omega)) | exact bs_beq _ _ | exact bs_less _ _ | exact bs_leq _ _ | with_reducible exact bs_app _ _ | (refine bs_get _ _ ?_; omega) | (refine bs_int _ _ ?_ ?_ <;> omega) | with_reducible exact sl_map0 _ _ _ | with_reducible exact sl_mapN _ _ _ | with_reducible exact sl_map _ _ _ _ | exact bs_extract0 _ _ | exact bs_extractN _ _ | exact bs_extract _ _ _ | (refine bnd_id ?_; omega) | (refine bnd_sub ?_ ?_ <;> omega) | (refine bnd_add ?_; omega) | (refine bnd_subN ?_ ?_ <;> omega) | (refine bnd_int ?_ ?_ <;> omega) | ((show @Eq Nat (_ + Int.toNat _ * _) _); simp only [Int.toNat_natCast, Nat.zero_add, Nat.mul_one]; rfl) | ((show @Eq (List _) (List.set [_] _ _) _); simp only [List.set_cons_zero]; rfl) | exact List.length_map _ | exact size_bs _ | (simp only [List.length_map, List.length_append, List.length_cons, List.length_nil, List.length_replicate, Nat.zero_add]; rfl) | with_reducible exact List.nil_append _ | with_reducible exact map_app _ _ _ | exact map_snoc byD _ _ | exact map_snoc inD _ _ | exact map_snoc stD _ _ | exact map_snoc tsD _ _ | (simp only [chunks]; rfl) | (refine wid ?_ ?_ <;> omega) | exact wby _ | with_reducible exact wby32 _ | with_reducible exact wu32 _ | exact wby64 _ | exact shr8 _ | exact shr16 _ | exact shr24 _ | exact shr32 _ | (refine tmodn ?_; omega) | (refine wdiv ?_ ?_ ?_ <;> omega) | exact wbyte _ | exact natlit _ | exact rep_by _ | exact rep_in _ | exact rep_bo _ | exact rep_st _ | (refine pick_nat _ _ _ ?_; omega) | (refine pick_int _ _ _ ?_ ?_ <;> omega) | (refine SlOf.full ?_; first | (simp; done) | (simp; omega)) | (with_reducible refine SlOf.pre _ _ ?_; first | omega | (simp; omega)) | (refine SlF.self _ _ ?_ ?_; (first | rfl | omega | (simp; done) | (simp; omega)); (exact fun _ => rfl)) | (refine SlF.pre _ _ ?_ ?_; (first | omega | (simp; omega)); (exact fun _ => rfl)) | (refine SlF.same ?_ ?_; (first | rfl | omega | (simp; done) | (simp; omega)); (first | exact fz_self _ _ (fun _ => rfl) | exact fz_pl rfl | (refine Fz.append ?_ ?_ <;> first | exact fz_self _ _ (fun _ => rfl) | exact fz_pl rfl) | (refine Fz.append (Fz.append ?_ ?_) ?_ <;> first | exact fz_self _ _ (fun _ => rfl) | exact fz_pl rfl))) | (simp only [Int.toNat_natCast, Nat.zero_add, Nat.mul_one]; rfl) | ((show @Eq (Option CV) _ _); rfl) | ((fail_if_success (show @Eq (Option _) _ _)); rfl) | ((show @Eq (Option _) _ _); simp only [List.getElem?_cons_zero, List.getElem?_cons_succ]; done) | ((show @Eq (Option _) _ _); simp only [List.getElem?_cons_zero, List.getElem?_cons_succ]; rfl) | with_reducible rfl)); conv => whnf))); exact Done.mk trivial))); conv => whnf)
        refine Hand.mk [] ?_
        try (conv => whnf)
        refine CallW.d (i_StampLess o.atT o.atA o.time o.actor) ?_
        try (conv => whnf)
        try (conv => whnf)
        repeat' (first
         | (refine br_dec (fun _ => ?_) (fun _ => ?_) <;> first | contradiction | conv => whnf)
         | (refine br_not ?_; conv => whnf)
         | (refine br_bne (fun _ => ?_) (fun _ => ?_) <;> first | contradiction | conv => whnf)
         | (refine br_beq (fun _ => ?_) (fun _ => ?_) <;> first | contradiction | conv => whnf))
        refine Out.mk true [] [] ?_
        try (conv => whnf)
        exact ⟨dec_f (fun h => by
         obtain ⟨h1, h2, h3, h4, h5, h6, h7, h8, h9, h10⟩ := h
         first | contradiction | omega | (rcases h9 with h9 | ⟨h9, h9'⟩ <;> contradiction)), rfl⟩
      ·try (conv => whnf)
       refine Hand.mk [] ?_
       try (conv => whnf)
       refine CallW.d (i_StampOK o.atT o.atA) ?_
       try (conv => whnf)
       try (conv => whnf)
       repeat' (first
        | (refine Need.mk ?_ ?_; (focus (((conv => whnf); (repeat (first | (refine Need.mk (by first | rfl | omega | (simp; done)) ?_; conv => whnf) | (refine Pick.mk ?_ ?_ ?_; rotate_left; (focus (first | with_reducible exact xor_u8 _ _ | (with_reducible refine xor_i64 ?_ ?_; all_goals omega) | (with_reducible refine xor_u32 ?_ ?_; all_goals omega) | assumption | with_reducible exact set_byN _ _ _ _ | with_reducible exact set_byI _ _ _ _ | with_reducible exact set_inN _ _ _ _ | with_reducible exact set_inI _ _ _ _ | with_reducible exact set_stN _ _ _ _ | with_reducible exact set_tsN _ _ _ _ | with_reducible exact set_tsI _ _ _ _ | with_reducible exact set_boN _ _ _ _ | with_reducible exact set_boI _ _ _ _ | (with_reducible refine get_mapN _ _ _ ?_; first | omega | (simp; omega)) | (with_reducible refine get_mapI _ _ _ ?_ ?_ <;> first | omega | (simp; omega)) | exact bs_beq _ _ | exact bs_less _ _ | exact bs_leq _ _ | with_reducible exact bs_app _ _ | (refine bs_get _ _ ?_; omega) | (refine bs_int _ _ ?_ ?_ <;> omega) | with_reducible exact sl_map0 _ _ _ | with_reducible exact sl_mapN _ _ _ | with_reducible exact sl_map _ _ _ _ | exact bs_extract0 _ _ | exact bs_extractN _ _ | exact bs_extract _ _ _ | (refine bnd_id ?_; omega) | (refine bnd_sub ?_ ?_ <;> omega) | (refine bnd_add ?_; omega) | (refine bnd_subN ?_ ?_ <;> omega) | (refine bnd_int ?_ ?_ <;> omega) | ((show @Eq Nat (_ + Int.toNat _ * _) _); simp only [Int.toNat_natCast, Nat.zero_add, Nat.mul_one]; rfl) | ((show @Eq (List _) (List.set [_] _ _) _); simp only [List.set_cons_zero]; rfl) | exact List.length_map _ | exact size_bs _ | (simp only [List.length_map, List.length_append, List.length_cons, List.length_nil, List.length_replicate, Nat.zero_add]; rfl) | with_reducible exact List.nil_append _ | with_reducible exact map_app _ _ _ | exact map_snoc byD _ _ | exact map_snoc inD _ _ | exact map_snoc stD _ _ | exact map_snoc tsD _ _ | (simp only [chunks]; rfl) | (refine wid ?_ ?_ <;> omega) | exact wby _ | with_reducible exact wby32 _ | with_reducible exact wu32 _ | exact wby64 _ | exact shr8 _ | exact shr16 _ | exact shr24 _ | exact shr32 _ | (refine tmodn ?_; omega) | (refine wdiv ?_ ?_ ?_ <;> omega) | exact wbyte _ | exact natlit _ | exact rep_by _ | exact rep_in _ | exact rep_bo _ | exact rep_st _ | (refine pick_nat _ _ _ ?_; omega) | (refine pick_int _ _ _ ?_ ?_ <;> omega) | (refine SlOf.full ?_; first | (simp; done) | (simp; omega)) | (with_reducible refine SlOf.pre _ _ ?_; first | omega | (simp; omega)) | (refine SlF.self _ _ ?_ ?_; (first | rfl | omega | (simp; done) | (simp; omega)); (exact fun _ => rfl)) | (refine SlF.pre _ _ ?_ ?_; (first | omega | (simp; omega)); (exact fun _ => rfl)) | (refine SlF.same ?_ ?_; (first | rfl | omega | (simp; done) | (simp; omega)); (first | exact fz_self _ _ (fun _ => rfl) | exact fz_pl rfl | (refine Fz.append ?_ ?_ <;> first | exact fz_self _ _ (fun _ => rfl) | exact fz_pl rfl) | (refine Fz.append (Fz.append ?_ ?_) ?_ <;> first | exact fz_self _ _ (fun _ => rfl) | exact fz_pl rfl))) | (simp only [Int.toNat_natCast, Nat.zero_add, Nat.mul_one]; rfl) | ((show @Eq (Option CV) _ _); rfl) | ((fail_if_success (show @Eq (Option _) _ _)); rfl) | ((show @Eq (Option _) _ _); simp only [List.getElem?_cons_zero, List.getElem?_cons_succ]; done) | ((show @Eq (Option _) _ _); simp only [List.getElem?_cons_zero, List.getElem?_cons_succ]; rfl) | with_reducible rfl)); conv => whnf))); exact Done.mk trivial))); conv => whnf)
        | (refine br_dec (fun _ => ?_) (fun _ => ?_) <;> first | contradiction | conv => whnf)
        | (refine br_not ?_; conv => whnf)
        | (refine br_bne (fun _ => ?_) (fun _ => ?_) <;> first | contradiction | conv => whnf)
        | (refine br_beq (fun _ => ?_) (fun _ => ?_) <;> first | contradiction | conv => whnf))
       refine Out.mk true [] [] ?_
       try (conv => whnf)
       exact ⟨dec_f (fun h => by
        obtain ⟨h1, h2, h3, h4, h5, h6, h7, h8, h9, h10⟩ := h
        first | contradiction | omega | (rcases h9 with h9 | ⟨h9, h9'⟩ <;> contradiction)), rfl⟩
    all_goals
     refine Out.mk true [] [] ?_
     try (conv => whnf)
    all_goals
     exact ⟨dec_f (fun h => by
      obtain ⟨h1, h2, h3, h4, h5, h6, h7, h8, h9, h10⟩ := h
      first | contradiction | omega | (rcases h9 with h9 | ⟨h9, h9'⟩ <;> contradiction)), rfl⟩
   all_goals
    refine Out.mk true [] [] ?_
    try (conv => whnf)
   all_goals
    exact ⟨dec_f (fun h => by
     obtain ⟨h1, h2, h3, h4, h5, h6, h7, h8, h9, h10⟩ := h
     first | contradiction | omega | (rcases h9 with h9 | ⟨h9, h9'⟩ <;> contradiction)), rfl⟩
  ·try (conv => whnf)
   repeat' (first
    | (refine br_dec (fun _ => ?_) (fun _ => ?_) <;> first | (exfalso; omega) | contradiction | conv => whnf)
    | (refine br_not ?_; conv => whnf)
    | (refine br_bne (fun _ => ?_) (fun _ => ?_) <;> first | (exfalso; omega) | contradiction | conv => whnf)
    | (refine br_beq (fun _ => ?_) (fun _ => ?_) <;> first | (exfalso; omega) | contradiction | conv => whnf))
   rotate_left 2
   ·refine Hand.mk [] ?_
    try (conv => whnf)
    refine CallW.d (i_VecOK o.deps) ?_
    try (conv => whnf)
    try (conv => whnf)
    repeat' (first
     | (refine br_dec (fun _ => ?_) (fun _ => ?_) <;> first | (exfalso; omega) | contradiction | conv => whnf)
     | (refine br_not ?_; conv => whnf)
     | (refine br_bne (fun _ => ?_) (fun _ => ?_) <;> first | (exfalso; omega) | contradiction | conv => whnf)
     | (refine br_beq (fun _ => ?_) (fun _ => ?_) <;> first | (exfalso; omega) | contradiction | conv => whnf))
    refine Out.mk true [] [] ?_
    try (conv => whnf)
    exact ⟨dec_f (fun h => by
     obtain ⟨h1, h2, h3, h4, h5, h6, h7, h8, h9, h10⟩ := h
     first | contradiction | omega | (rcases h9 with h9 | ⟨h9, h9'⟩ <;> contradiction)), rfl⟩
   all_goals
    refine Out.mk true [] [] ?_
    try (conv => whnf)
   all_goals
    exact ⟨dec_f (fun h => by
     obtain ⟨h1, h2, h3, h4, h5, h6, h7, h8, h9, h10⟩ := h
     first | contradiction | omega | (rcases h9 with h9 | ⟨h9, h9'⟩ <;> contradiction)), rfl⟩
 ·try (conv => whnf)
  repeat' (first
   | (refine br_dec (fun _ => ?_) (fun _ => ?_) <;> first | (exfalso; omega) | contradiction | conv => whnf)
   | (refine br_not ?_; conv => whnf)
   | (refine br_bne (fun _ => ?_) (fun _ => ?_) <;> first | (exfalso; omega) | contradiction | conv => whnf)
   | (refine br_beq (fun _ => ?_) (fun _ => ?_) <;> first | (exfalso; omega) | contradiction | conv => whnf))
  refine Out.mk true [] [] ?_
  try (conv => whnf)
  exact ⟨dec_f (fun h => by
   obtain ⟨h1, h2, h3, h4, h5, h6, h7, h8, h9, h10⟩ := h
   first | contradiction | omega | (rcases h9 with h9 | ⟨h9, h9'⟩ <;> contradiction)), rfl⟩
theorem s_l08OpOK (o : OpV) (hk : o.key.length ≤ 2 ^ 40) (ht : o.text.length ≤ 2 ^ 40) : CallD Try.prog id_spec_l08OpOK [vO o] [] (vB (decide (OpOk o))) [] := by
 refine F_spec_l08OpOK ?_
 try (conv => whnf)
 refine Hand.mk [] ?_
 try (conv => whnf)
 refine CallW.d (s_l08Stamp o) ?_
 try (conv => whnf)
 repeat (refine SeqJ.thru ?_; conv => whnf)
 refine Hand.mk [] ?_
 try (conv => whnf)
 refine CallW.d (s_StampOK o.time o.actor) ?_
 try (conv => whnf)
 by_cases hst : stOk o.time o.actor
 ·obtain ⟨⟨t1, t2⟩, a1, a2⟩ := id hst
  by_cases hv : VecOk o.deps
  ·have hvl := hv.1
   obtain ⟨hlt, hown⟩ := own_at hv ⟨a1, a2⟩
   try (conv => whnf)
   repeat' (first
    | (refine br_dec (fun _ => ?_) (fun _ => ?_) <;> first | (exfalso; omega) | contradiction | conv => whnf)
    | (refine br_not ?_; conv => whnf)
    | (refine br_bne (fun _ => ?_) (fun _ => ?_) <;> first | (exfalso; omega) | contradiction | conv => whnf)
    | (refine br_beq (fun _ => ?_) (fun _ => ?_) <;> first | (exfalso; omega) | contradiction | conv => whnf))
   rotate_left 2
   ·refine Hand.mk [] ?_
    try (conv => whnf)
    refine CallW.d (s_VecOK o.deps) ?_
    try (conv => whnf)
    try (conv => whnf)
    repeat' (first
     | (refine Pick.mk ?_ ?_ ?_; rotate_left; (focus (first | exact size_bs _ | (refine wid ?_ ?_ <;> omega) | (refine pick_int _ _ _ ?_ ?_ <;> omega))); conv => whnf)
     | (refine SeqJ.thru ?_; conv => whnf)
     | (refine br_dec (fun _ => ?_) (fun _ => ?_) <;> first | (exfalso; omega) | contradiction | conv => whnf)
     | (refine br_not ?_; conv => whnf)
     | (refine br_bne (fun _ => ?_) (fun _ => ?_) <;> first | (exfalso; omega) | contradiction | conv => whnf)
     | (refine br_beq (fun _ => ?_) (fun _ => ?_) <;> first | (exfalso; omega) | contradiction | conv => whnf))
    all_goals
     first
      |skip
       refine Out.mk true [] [] ?_
       try (conv => whnf)
       exact ⟨dec_f (fun h => by
        obtain ⟨h1, h2, h3, h4, h5, h6, h7, h8, h9, h10⟩ := h
        first | contradiction | omega | (rcases h9 with h9 | ⟨h9, h9'⟩ <;> contradiction)), rfl⟩
      | skip
    by_cases hz : noSt o.atT o.atA
    ·refine Hand.mk [] ?_
     try (conv => whnf)
     refine CallW.d (s_l02None o.atT o.atA) ?_
     try (conv => whnf)
     have hP : kindOk o → OpOk o := fun hk => ⟨hst, by omega, hv, by omega, by omega, by omega, by omega, by omega, .inl hz, hk⟩
     have hN : ¬ kindOk o → ¬ OpOk o := fun h g => h g.kind
     try (conv => whnf)
     repeat' (first
      | (refine Pick.mk ?_ ?_ ?_; rotate_left; (focus (exact bs_beq _ _)); conv => whnf)
      | (refine br_dec (fun _ => ?_) (fun _ => ?_) <;> first | contradiction | conv => whnf)
      | (refine br_not ?_; conv => whnf)
      | (refine br_bne (fun _ => ?_) (fun _ => ?_) <;> first | contradiction | conv => whnf)
      | (refine br_beq (fun _ => ?_) (fun _ => ?_) <;> first | contradiction | conv => whnf))
     all_goals
      first
       |skip
        refine Out.mk true [] [] ?_
        try (conv => whnf)
        first
         | exact ⟨dec_t (hP (by first | exact .inl ⟨by assumption, by assumption, hz⟩ | exact .inr (.inr (.inl ⟨by assumption, ⟨by assumption, by assumption⟩, by assumption, hz⟩)) | exact .inr (.inr (.inr ⟨by assumption, ⟨by assumption, by assumption⟩, hz⟩)))), rfl⟩
         | exact ⟨dec_f (hN (by rintro (⟨k1, k2, k3⟩ | ⟨k1, ⟨k2, k4⟩, k3⟩ | ⟨k1, ⟨k2, k4⟩, k3, k5⟩ | ⟨k1, ⟨k2, k4⟩, k3⟩) <;> first | contradiction | omega)), rfl⟩
       |skip
        refine Hand.mk [] ?_
        try (conv => whnf)
        refine CallW.d (s_l04Char o.n) ?_
        try (conv => whnf)
        refine Out.mk true [] [] ?_
        try (conv => whnf)
        exact ⟨dec_b ⟨fun h => hP (.inr (.inl ⟨by assumption, ⟨by assumption, by assumption⟩, h⟩)), fun h => by
         rcases h.kind with ⟨k1, k2, k3⟩ | ⟨k1, ⟨k2, k4⟩, k3⟩ | ⟨k1, ⟨k2, k4⟩, k3, k5⟩ | ⟨k1, ⟨k2, k4⟩, k3⟩ <;> first | exact k3 | omega⟩, rfl⟩
       |skip
        refine Hand.mk [] ?_
        try (conv => whnf)
        refine CallW.d (s_l02None o.atT o.atA) ?_
        try (conv => whnf)
        refine Out.mk true [] [] ?_
        try (conv => whnf)
        first
         | rw [show (!decide (noSt o.atT o.atA)) = false from by rw [decide_eq_true hz]; rfl]
         | rw [show (!decide (noSt o.atT o.atA)) = true from by rw [decide_eq_false hz]; rfl]
         | rw [show decide (noSt o.atT o.atA) = true from decide_eq_true hz]
         | rw [show decide (noSt o.atT o.atA) = false from decide_eq_false hz]
        first
         | exact ⟨dec_t (hP (by first | exact .inl ⟨by assumption, by assumption, hz⟩ | exact .inr (.inr (.inl ⟨by assumption, ⟨by assumption, by assumption⟩, by assumption, hz⟩)) | exact .inr (.inr (.inr ⟨by assumption, ⟨by assumption, by assumption⟩, hz⟩)))), rfl⟩
         | exact ⟨dec_f (hN (by rintro (⟨k1, k2, k3⟩ | ⟨k1, ⟨k2, k4⟩, k3⟩ | ⟨k1, ⟨k2, k4⟩, k3, k5⟩ | ⟨k1, ⟨k2, k4⟩, k3⟩) <;> first | contradiction | omega)), rfl⟩
    ·by_cases hs2 : stOk o.atT o.atA
     ·by_cases hsl : stLt o.atT o.atA o.time o.actor
      ·refine Hand.mk [] ?_
       try (conv => whnf)
       refine CallW.d (s_l02None o.atT o.atA) ?_
       try (conv => whnf)
       try (conv => whnf)
       repeat' (first
        | (refine br_dec (fun _ => ?_) (fun _ => ?_) <;> first | contradiction | conv => whnf)
        | (refine br_not ?_; conv => whnf)
        | (refine br_bne (fun _ => ?_) (fun _ => ?_) <;> first | contradiction | conv => whnf)
        | (refine br_beq (fun _ => ?_) (fun _ => ?_) <;> first | contradiction | conv => whnf))
       refine Hand.mk [] ?_
       try (conv => whnf)
       refine CallW.d (s_StampOK o.atT o.atA) ?_
       try (conv => whnf)
       try (conv => whnf)
       repeat' (first
        | (refine br_dec (fun _ => ?_) (fun _ => ?_) <;> first | contradiction | conv => whnf)
        | (refine br_not ?_; conv => whnf)
        | (refine br_bne (fun _ => ?_) (fun _ => ?_) <;> first | contradiction | conv => whnf)
        | (refine br_beq (fun _ => ?_) (fun _ => ?_) <;> first | contradiction | conv => whnf))
       refine Hand.mk [] ?_
       try (conv => whnf)
       refine CallW.d (s_StampLess o.atT o.atA o.time o.actor) ?_
       try (conv => whnf)
       have hP : kindOk o → OpOk o := fun hk => ⟨hst, by omega, hv, by omega, by omega, by omega, by omega, by omega, .inr ⟨hs2, hsl⟩, hk⟩
       have hN : ¬ kindOk o → ¬ OpOk o := fun h g => h g.kind
       try (conv => whnf)
       repeat' (first
        | (refine Pick.mk ?_ ?_ ?_; rotate_left; (focus (exact bs_beq _ _)); conv => whnf)
        | (refine br_dec (fun _ => ?_) (fun _ => ?_) <;> first | contradiction | conv => whnf)
        | (refine br_not ?_; conv => whnf)
        | (refine br_bne (fun _ => ?_) (fun _ => ?_) <;> first | contradiction | conv => whnf)
        | (refine br_beq (fun _ => ?_) (fun _ => ?_) <;> first | contradiction | conv => whnf))
       all_goals
        first
         |skip
          refine Out.mk true [] [] ?_
          try (conv => whnf)
          first
           | exact ⟨dec_t (hP (by first | exact .inl ⟨by assumption, by assumption, hz⟩ | exact .inr (.inr (.inl ⟨by assumption, ⟨by assumption, by assumption⟩, by assumption, hz⟩)) | exact .inr (.inr (.inr ⟨by assumption, ⟨by assumption, by assumption⟩, hz⟩)))), rfl⟩
           | exact ⟨dec_f (hN (by rintro (⟨k1, k2, k3⟩ | ⟨k1, ⟨k2, k4⟩, k3⟩ | ⟨k1, ⟨k2, k4⟩, k3, k5⟩ | ⟨k1, ⟨k2, k4⟩, k3⟩) <;> first | contradiction | omega)), rfl⟩
         |skip
          refine Hand.mk [] ?_
          try (conv => whnf)
          refine CallW.d (s_l04Char o.n) ?_
          try (conv => whnf)
          refine Out.mk true [] [] ?_
          try (conv => whnf)
          exact ⟨dec_b ⟨fun h => hP (.inr (.inl ⟨by assumption, ⟨by assumption, by assumption⟩, h⟩)), fun h => by
           rcases h.kind with ⟨k1, k2, k3⟩ | ⟨k1, ⟨k2, k4⟩, k3⟩ | ⟨k1, ⟨k2, k4⟩, k3, k5⟩ | ⟨k1, ⟨k2, k4⟩, k3⟩ <;> first | exact k3 | omega⟩, rfl⟩
         |skip
          refine Hand.mk [] ?_
          try (conv => whnf)
          refine CallW.d (s_l02None o.atT o.atA) ?_
          try (conv => whnf)
          refine Out.mk true [] [] ?_
          try (conv => whnf)
          first
           | rw [show (!decide (noSt o.atT o.atA)) = false from by rw [decide_eq_true hz]; rfl]
           | rw [show (!decide (noSt o.atT o.atA)) = true from by rw [decide_eq_false hz]; rfl]
           | rw [show decide (noSt o.atT o.atA) = true from decide_eq_true hz]
           | rw [show decide (noSt o.atT o.atA) = false from decide_eq_false hz]
          first
           | exact ⟨dec_t (hP (by first | exact .inl ⟨by assumption, by assumption, hz⟩ | exact .inr (.inr (.inl ⟨by assumption, ⟨by assumption, by assumption⟩, by assumption, hz⟩)) | exact .inr (.inr (.inr ⟨by assumption, ⟨by assumption, by assumption⟩, hz⟩)))), rfl⟩
           | exact ⟨dec_f (hN (by rintro (⟨k1, k2, k3⟩ | ⟨k1, ⟨k2, k4⟩, k3⟩ | ⟨k1, ⟨k2, k4⟩, k3, k5⟩ | ⟨k1, ⟨k2, k4⟩, k3⟩) <;> first | contradiction | omega)), rfl⟩
      ·refine Hand.mk [] ?_
       try (conv => whnf)
       refine CallW.d (s_l02None o.atT o.atA) ?_
       try (conv => whnf)
       try (conv => whnf)
       repeat' (first
        | (refine br_dec (fun _ => ?_) (fun _ => ?_) <;> first | contradiction | conv => whnf)
        | (refine br_not ?_; conv => whnf)
        | (refine br_bne (fun _ => ?_) (fun _ => ?_) <;> first | contradiction | conv => whnf)
        | (refine br_beq (fun _ => ?_) (fun _ => ?_) <;> first | contradiction | conv => whnf))
       refine Hand.mk [] ?_
       try (conv => whnf)
       refine CallW.d (s_StampOK o.atT o.atA) ?_
       try (conv => whnf)
       try (conv => whnf)
       repeat' (first
        | (refine br_dec (fun _ => ?_) (fun _ => ?_) <;> first | contradiction | conv => whnf)
        | (refine br_not ?_; conv => whnf)
        | (refine br_bne (fun _ => ?_) (fun _ => ?_) <;> first | contradiction | conv => whnf)
        | (refine br_beq (fun _ => ?_) (fun _ => ?_) <;> first | contradiction | conv => whnf))
       refine Hand.mk [] ?_
       try (conv => whnf)
       refine CallW.d (s_StampLess o.atT o.atA o.time o.actor) ?_
       try (conv => whnf)
       try (conv => whnf)
       repeat' (first
        | (refine br_dec (fun _ => ?_) (fun _ => ?_) <;> first | contradiction | conv => whnf)
        | (refine br_not ?_; conv => whnf)
        | (refine br_bne (fun _ => ?_) (fun _ => ?_) <;> first | contradiction | conv => whnf)
        | (refine br_beq (fun _ => ?_) (fun _ => ?_) <;> first | contradiction | conv => whnf))
       refine Out.mk true [] [] ?_
       try (conv => whnf)
       exact ⟨dec_f (fun h => by
        obtain ⟨h1, h2, h3, h4, h5, h6, h7, h8, h9, h10⟩ := h
        first | contradiction | omega | (rcases h9 with h9 | ⟨h9, h9'⟩ <;> contradiction)), rfl⟩
     ·refine Hand.mk [] ?_
      try (conv => whnf)
      refine CallW.d (s_l02None o.atT o.atA) ?_
      try (conv => whnf)
      try (conv => whnf)
      repeat' (first
       | (refine br_dec (fun _ => ?_) (fun _ => ?_) <;> first | contradiction | conv => whnf)
       | (refine br_not ?_; conv => whnf)
       | (refine br_bne (fun _ => ?_) (fun _ => ?_) <;> first | contradiction | conv => whnf)
       | (refine br_beq (fun _ => ?_) (fun _ => ?_) <;> first | contradiction | conv => whnf))
      refine Hand.mk [] ?_
      try (conv => whnf)
      refine CallW.d (s_StampOK o.atT o.atA) ?_
      try (conv => whnf)
      try (conv => whnf)
      repeat' (first
       | (refine br_dec (fun _ => ?_) (fun _ => ?_) <;> first | contradiction | conv => whnf)
       | (refine br_not ?_; conv => whnf)
       | (refine br_bne (fun _ => ?_) (fun _ => ?_) <;> first | contradiction | conv => whnf)
       | (refine br_beq (fun _ => ?_) (fun _ => ?_) <;> first | contradiction | conv => whnf))
      refine Out.mk true [] [] ?_
      try (conv => whnf)
      exact ⟨dec_f (fun h => by
       obtain ⟨h1, h2, h3, h4, h5, h6, h7, h8, h9, h10⟩ := h
       first | contradiction | omega | (rcases h9 with h9 | ⟨h9, h9'⟩ <;> contradiction)), rfl⟩
   all_goals
    refine Out.mk true [] [] ?_
    try (conv => whnf)
   all_goals
    exact ⟨dec_f (fun h => by
     obtain ⟨h1, h2, h3, h4, h5, h6, h7, h8, h9, h10⟩ := h
     first | contradiction | omega | (rcases h9 with h9 | ⟨h9, h9'⟩ <;> contradiction)), rfl⟩
  ·try (conv => whnf)
   repeat' (first
    | (refine br_dec (fun _ => ?_) (fun _ => ?_) <;> first | (exfalso; omega) | contradiction | conv => whnf)
    | (refine br_not ?_; conv => whnf)
    | (refine br_bne (fun _ => ?_) (fun _ => ?_) <;> first | (exfalso; omega) | contradiction | conv => whnf)
    | (refine br_beq (fun _ => ?_) (fun _ => ?_) <;> first | (exfalso; omega) | contradiction | conv => whnf))
   rotate_left 2
   ·refine Hand.mk [] ?_
    try (conv => whnf)
    refine CallW.d (s_VecOK o.deps) ?_
    try (conv => whnf)
    try (conv => whnf)
    repeat' (first
     | (refine br_dec (fun _ => ?_) (fun _ => ?_) <;> first | (exfalso; omega) | contradiction | conv => whnf)
     | (refine br_not ?_; conv => whnf)
     | (refine br_bne (fun _ => ?_) (fun _ => ?_) <;> first | (exfalso; omega) | contradiction | conv => whnf)
     | (refine br_beq (fun _ => ?_) (fun _ => ?_) <;> first | (exfalso; omega) | contradiction | conv => whnf))
    refine Out.mk true [] [] ?_
    try (conv => whnf)
    exact ⟨dec_f (fun h => by
     obtain ⟨h1, h2, h3, h4, h5, h6, h7, h8, h9, h10⟩ := h
     first | contradiction | omega | (rcases h9 with h9 | ⟨h9, h9'⟩ <;> contradiction)), rfl⟩
   all_goals
    refine Out.mk true [] [] ?_
    try (conv => whnf)
   all_goals
    exact ⟨dec_f (fun h => by
     obtain ⟨h1, h2, h3, h4, h5, h6, h7, h8, h9, h10⟩ := h
     first | contradiction | omega | (rcases h9 with h9 | ⟨h9, h9'⟩ <;> contradiction)), rfl⟩
 ·try (conv => whnf)
  repeat' (first
   | (refine br_dec (fun _ => ?_) (fun _ => ?_) <;> first | (exfalso; omega) | contradiction | conv => whnf)
   | (refine br_not ?_; conv => whnf)
   | (refine br_bne (fun _ => ?_) (fun _ => ?_) <;> first | (exfalso; omega) | contradiction | conv => whnf)
   | (refine br_beq (fun _ => ?_) (fun _ => ?_) <;> first | (exfalso; omega) | contradiction | conv => whnf))
  refine Out.mk true [] [] ?_
  try (conv => whnf)
  exact ⟨dec_f (fun h => by
   obtain ⟨h1, h2, h3, h4, h5, h6, h7, h8, h9, h10⟩ := h
   first | contradiction | omega | (rcases h9 with h9 | ⟨h9, h9'⟩ <;> contradiction)), rfl⟩
end Go.Proofs.Ytpdjehnlejjfmaa.D
/- The reference's telling whether a log is in order. -/
namespace Go.Proofs.Ytpdjehnlejjfmaa.D
open Go.RowKit
set_option maxRecDepth 100000
set_option maxHeartbeats 4000000
set_option linter.unusedVariables false
set_option linter.unusedSimpArgs false

theorem Good1.take {l : List OpV} {i : Nat} (h : Good1 l i) (hi : i ≤ l.length) : Good1 (l.take i) (l.take i).length := fun j hj hlt => by
 simp only [List.length_take] at hj
 obtain ⟨h1, h2, h3⟩ := h j (by omega) (by omega)
 simp only [List.getElem_take, List.take_take, show min j i = j by omega]
 exact ⟨h1, h2, h3⟩
theorem own_none {l : List OpV} {i : Nat} (h : Good1 l i) (hi : i ≤ l.length) (h0 : 0 < i) {a : Int} (ha : (l[i - 1]'(by omega)).actor < a) : own (l.take i) a = [] := by
 rw [own, List.filter_eq_nil_iff]
 intro o ho
 obtain ⟨j, hj, rfl⟩ := List.mem_iff_getElem.1 ho
 have hs := (h.take hi).sorted
 rw [List.pairwise_iff_getElem] at hs
 have hj' : j < i := by simp at hj; omega
 rcases Nat.lt_or_ge j (i - 1) with g | g
 ·have := hs j (i - 1) hj (by simp; omega) g
  simp only [List.getElem_take] at this ⊢
  simp; omega
 ·obtain rfl : j = i - 1 := by omega
  simp only [List.getElem_take]
  simp; omega
theorem seqStep {l : List OpV} {i : Nat} (hi : i < l.length) (h : Good1 l i) : ((0 < i → (l[i - 1]'(by omega)).actor ≤ l[i].actor) ∧ l[i].seq = (own (l.take i) l[i].actor).length + 1) ↔
  (i = 0 ∧ l[i].seq = 1) ∨ (0 < i ∧ l[i].actor = (l[i - 1]'(by omega)).actor ∧ l[i].seq = (l[i - 1]'(by omega)).seq + 1) ∨ (0 < i ∧ (l[i - 1]'(by omega)).actor < l[i].actor ∧ l[i].seq = 1) := by
 rcases Nat.eq_zero_or_pos i with rfl | h0
 ·simp [own]
 ·have hp : i - 1 < l.length := by omega
  have h1 := (h (i - 1) hp (by omega)).2.2
  have e : own (l.take i) (l[i - 1]).actor = own (l.take (i - 1)) (l[i - 1]).actor ++ [l[i - 1]] := by
   have := own_take hp (l[i - 1]).actor
   rw [if_pos rfl, show i - 1 + 1 = i by omega] at this
   exact this
  rcases Int.lt_trichotomy (l[i - 1]).actor l[i].actor with g | g | g
  ·rw [own_none h (by omega) h0 g]
   constructor
   ·rintro ⟨_, h2⟩; exact .inr (.inr ⟨h0, g, by simpa using h2⟩)
   ·rintro (⟨h2, _⟩ | ⟨_, h2, _⟩ | ⟨_, _, h2⟩)
    ·omega
    ·omega
    ·exact ⟨fun _ => by omega, by simpa using h2⟩
  ·rw [← g, e]
   simp only [List.length_append, List.length_singleton]
   constructor
   ·rintro ⟨_, h2⟩; exact .inr (.inl ⟨h0, by simp, by push_cast at h2; omega⟩)
   ·rintro (⟨h2, _⟩ | ⟨_, _, h2⟩ | ⟨_, h2, _⟩)
    ·omega
    ·exact ⟨fun _ => by omega, by push_cast; omega⟩
    ·omega
  ·constructor
   ·rintro ⟨h2, _⟩; have := h2 h0; omega
   ·rintro (⟨h2, _⟩ | ⟨_, h2, _⟩ | ⟨_, h2, _⟩) <;> omega
theorem s_l02New : CallD Try.prog id_spec_l02New [] [] (.agg [.os (.v 0) 1 0 16]) [.own 1 ((List.replicate 16 (0 : Int)).map inD)] := by
 refine F_spec_l02New ?_
 try (conv => whnf)
 repeat (first
  | (refine Need.mk ?_ ?_; (focus (omega)); conv => whnf)
  | (refine Pick.mk ?_ ?_ ?_; rotate_left; (focus (first | (simp only [List.length_map, List.length_append, List.length_cons, List.length_nil, List.length_replicate, Nat.zero_add]; rfl) | exact natlit _)); conv => whnf))
 refine Out.mk false [0, 1, 2, 3, 4] [] ?_
 try (conv => whnf)
 repeat (refine Need.mk ?_ ?_; (focus ((first | exact flat_by _ | exact flat_in _ | exact flat_st _ | exact flat_ts _ | exact flat_bo _ | exact flat_cl rfl))); conv => whnf)
 exact ⟨rfl, rfl⟩
theorem s_l08Counts (l : List OpV) (hl : ∀ o ∈ l, actOk o.actor) (hle : l.length ≤ 2 ^ 40) : CallD Try.prog id_spec_l08Counts [vL l] [] (.agg [.os (.v 0) 1 0 16]) [.own 1 ((cnts l).map inD)] := by
 refine F_spec_l08Counts ?_
 try (conv => whnf)
 refine Hand.mk [] ?_
 try (conv => whnf)
 refine CallW.d (s_l02New) ?_
 try (conv => whnf)
 refine LoopE.mk (fun i : Nat => mk [(0, vL l), (2, .one (.ptr 4096 0)), (3, .one (.ptr 8208 0)), (4, vI .i64 i)] [(4096, .box [.nil]), (8208, .box [.os (.v 8192) 1 0 16]), (8192, .own 1 ((cnts (l.take i)).map inD))])
  (fun i => i ≤ l.length) (fun i => l.length - i) 0 (by omega) (LeX.of ?_) ?_
 ·try (conv => whnf)
  repeat (refine Need.mk ?_ ?_; (focus (first | omega | (simp; done) | rfl)); conv => whnf)
  trivial
 ·intro i hi
  try (conv => whnf)
  repeat' (first
   | (refine Pick.mk ?_ ?_ ?_; rotate_left; (focus (first | exact List.length_map _ | (refine pick_nat _ _ _ ?_; omega))); conv => whnf)
   | (refine SeqJ.thru ?_; conv => whnf)
   | (refine br_dec (fun _ => ?_) (fun _ => ?_) <;> first | (exfalso; omega) | contradiction | conv => whnf)
   | (refine br_not ?_; conv => whnf)
   | (refine br_bne (fun _ => ?_) (fun _ => ?_) <;> first | (exfalso; omega) | contradiction | conv => whnf)
   | (refine br_beq (fun _ => ?_) (fun _ => ?_) <;> first | (exfalso; omega) | contradiction | conv => whnf))
  ·have hlt : i < l.length := by omega
   obtain ⟨a0, a1⟩ := hl _ (List.getElem_mem hlt)
   have hcn := cnts_get (l.take i) (a := l[i].actor.toNat) (by omega)
   rw [show ((l[i].actor.toNat : Nat) : Int) = l[i].actor by omega] at hcn
   have hle2 := own_le (l.take i) l[i].actor
   simp only [List.length_take] at hle2
   try (conv => whnf)
   repeat (first
    | (refine Need.mk ?_ ?_; (focus (first | omega | (simp only [List.length_map, List.length_append, List.length_cons, List.length_nil, List.length_replicate]; omega))); conv => whnf)
    | (refine Pick.mk ?_ ?_ ?_; rotate_left; (focus (first | with_reducible exact set_inI _ _ _ _ | (with_reducible refine get_mapI _ _ _ ?_ ?_ <;> first | omega | (simp; omega)) | (refine wid ?_ ?_ <;> omega))); conv => whnf))
   refine Pick.mk (i + 1) (by constructor <;> first | omega | (simp only []; omega)) (LeX.of ?_)
   try (conv => whnf)
   repeat (refine Need.mk ?_ ?_; (focus (first | omega | (simp; done))); conv => whnf)
   refine Need.mk (by rw [hcn, cnts_set hlt ⟨a0, a1⟩]) ?_
   try (conv => whnf)
   trivial
  ·refine Out.mk false [0, 1, 2, 3, 4] [] ?_
   try (conv => whnf)
   repeat (refine Need.mk ?_ ?_; (focus ((first | exact flat_by _ | exact flat_in _ | exact flat_st _ | exact flat_ts _ | exact flat_bo _ | exact flat_cl rfl))); conv => whnf)
   exact ⟨rfl, by rw [List.take_of_length_le (by omega)]⟩
theorem s_l08Find (l p m q : List OpV) (a n : Int) (hl : l = p ++ m ++ q) (hp : ∀ o ∈ p, o.actor ≠ a) (hm : ∀ o ∈ m, o.actor = a) (h1 : 1 ≤ n) (h2 : n ≤ m.length) (hle : l.length ≤ 2 ^ 40) :
  CallD Try.prog id_spec_l08Find [vL l, vI .i64 a, vI .i64 n] [] (vI .i64 (p.length + n - 1)) [] := by
 refine F_spec_l08Find ?_
 have hL : l.length = p.length + m.length + q.length := by rw [hl]; simp only [List.length_append]
 try (conv => whnf)
 refine LoopE.mk (fun i : Nat => mk [(0, vL l), (1, vI .i64 a), (2, vI .i64 n), (7, vI .i64 i)] []) (fun i => i ≤ p.length) (fun i => p.length - i) 0 (by omega) (LeX.of ?_) ?_
 ·try (conv => whnf)
  repeat (refine Need.mk ?_ ?_; (focus (first | omega | (simp; done))); conv => whnf)
  trivial
 ·intro i hi
  have hat : i < l.length := by omega
  rcases Nat.lt_or_ge i p.length with g | g
  ·have hne : l[i].actor ≠ a := by
    have e : l[i] = p[i] := by simp only [hl]; rw [List.getElem_append_left (by simp; omega), List.getElem_append_left g]
    rw [e]; exact hp _ (List.getElem_mem g)
   try (conv => whnf)
   repeat' (first
    | (refine Pick.mk ?_ ?_ ?_; rotate_left; (focus (first | exact List.length_map _ | (refine wid ?_ ?_ <;> omega) | (refine pick_nat _ _ _ ?_; omega))); conv => whnf)
    | (refine SeqJ.thru ?_; conv => whnf)
    | (refine br_dec (fun _ => ?_) (fun _ => ?_) <;> first | (exfalso; omega) | contradiction | conv => whnf)
    | (refine br_not ?_; conv => whnf)
    | (refine br_bne (fun _ => ?_) (fun _ => ?_) <;> first | (exfalso; omega) | contradiction | conv => whnf)
    | (refine br_beq (fun _ => ?_) (fun _ => ?_) <;> first | (exfalso; omega) | contradiction | conv => whnf))
   refine Pick.mk (i + 1) (by constructor <;> first | omega | (simp only []; omega)) (LeX.of ?_)
   try (conv => whnf)
   repeat (refine Need.mk ?_ ?_; (focus (first | omega | (simp; done))); conv => whnf)
   trivial
  ·obtain rfl : i = p.length := by omega
   have heq : l[p.length].actor = a := by
    have e : l[p.length] = m[0] := by simp only [hl]; rw [List.getElem_append_left (by simp; omega), List.getElem_append_right (by omega)]; simp
    rw [e]; exact hm _ (List.getElem_mem _)
   have heq2 : (l[((p.length : Int) + n - 1).toNat]'(by omega)).actor = a := by
    have e : l[((p.length : Int) + n - 1).toNat]'(by omega) = m[(n - 1).toNat]'(by omega) := by
     simp only [hl]
     rw [List.getElem_append_left (by simp; omega), List.getElem_append_right (by omega)]
     congr 1; omega
    rw [e]; exact hm _ (List.getElem_mem _)
   try (conv => whnf)
   repeat' (first
    | (refine Pick.mk ?_ ?_ ?_; rotate_left; (focus (first | exact List.length_map _ | (refine wid ?_ ?_ <;> omega) | (refine pick_nat _ _ _ ?_; omega) | (refine pick_int _ _ _ ?_ ?_ <;> omega))); conv => whnf)
    | (refine SeqJ.thru ?_; conv => whnf)
    | (refine br_dec (fun _ => ?_) (fun _ => ?_) <;> first | (exfalso; omega) | contradiction | conv => whnf)
    | (refine br_not ?_; conv => whnf)
    | (refine br_bne (fun _ => ?_) (fun _ => ?_) <;> first | (exfalso; omega) | contradiction | conv => whnf)
    | (refine br_beq (fun _ => ?_) (fun _ => ?_) <;> first | (exfalso; omega) | contradiction | conv => whnf))
   all_goals
    refine Out.mk true [] [] ?_
    try (conv => whnf)
   all_goals exact ⟨rfl, rfl⟩
theorem s_l08Thing (k : Int) : CallD Try.prog id_spec_l08Thing [vI .i64 k] [] (vI .i64 (thS k)) [] := by
 refine F_spec_l08Thing ?_
 try (conv => whnf)
 repeat' (first
  | (refine SeqJ.thru ?_; conv => whnf)
  | (refine br_dec (fun _ => ?_) (fun _ => ?_) <;> first | (exfalso; omega) | contradiction | conv => whnf)
  | (refine br_not ?_; conv => whnf)
  | (refine br_bne (fun _ => ?_) (fun _ => ?_) <;> first | (exfalso; omega) | contradiction | conv => whnf)
  | (refine br_beq (fun _ => ?_) (fun _ => ?_) <;> first | (exfalso; omega) | contradiction | conv => whnf))
 all_goals
  refine Out.mk true [] [] ?_
  try (conv => whnf)
 all_goals exact ⟨by simp only [thS]; split <;> (try split) <;> first | rfl | omega, rfl⟩
theorem own_find {l : List OpV} (h : l.Pairwise (fun x y => x.actor ≤ y.actor)) (a n : Int) (h1 : 1 ≤ n) (h2 : n ≤ (own l a).length) :
  ∃ p q, l = p ++ own l a ++ q ∧ (∀ o ∈ p, o.actor ≠ a) ∧ (∀ o ∈ own l a, o.actor = a) ∧ ∀ hlt : ((p.length : Int) + n - 1).toNat < l.length, (own l a)[(n - 1).toNat]? = some l[((p.length : Int) + n - 1).toNat] := by
 obtain ⟨p, q, e, hp, hq⟩ := split_own l a h
 refine ⟨p, q, e, fun o ho => by have := hp o ho; omega, fun o ho => by simpa using (List.mem_filter.1 ho).2, fun hlt => ?_⟩
 rw [← List.getElem?_eq_getElem hlt]
 conv => rhs; rw [e]
 rw [List.append_assoc, List.getElem?_append_right (by omega), List.getElem?_append_left (by omega)]
 congr 1; omega
theorem s_l08Causes (l : List OpV) (o : OpV) (hg : Good1 l l.length) (ho : OpOk o) (hle : l.length ≤ 2 ^ 40) : CallD Try.prog id_spec_l08Causes [vL l, vV (cnts l), vO o] [] (vB (decide (Cause l o))) [] := by
  refine F_spec_l08Causes ?_
  have hvl := ho.vec.1
  try (conv => whnf)
  refine LoopE.mk (fun a : Nat => mk [(0, vL l), (7, vI .i64 a), (4, .one (.ptr 4096 0)), (5, .one (.ptr 4112 0))] [(4096, .box [cN (cnts l)]), (4112, .box (opC o))]) (fun a => a ≤ 16 ∧ ∀ b : Nat, b < a → CauseAt l o b) (fun a => 16 - a) 0 ⟨by omega, fun b h => by omega⟩ (LeX.of ?_) ?_
  · try (conv => whnf)
    repeat (refine Need.mk ?_ ?_; (focus (first | omega | (simp; done))); conv => whnf)
    trivial
  · rintro a ⟨ha, hca⟩
    by_cases ha16 : a < 16
    · have hcn := cnts_get l ha16
      have hcl := cnts_length l
      have e3 : o.deps.getD a 0 = o.deps[a] := by simp [List.getD, show a < o.deps.length by omega]
      obtain ⟨c0, c1⟩ := ho.vec.2 _ (List.getElem_mem (show a < o.deps.length by omega))
      have step : CauseAt l o a → ∀ b : Nat, b < a + 1 → CauseAt l o b := fun h b hb => by
        rcases Nat.lt_or_ge b a with g | g
        · exact hca b g
        · obtain rfl : b = a := by omega
          exact h
      try (conv => whnf)
      repeat' (first
        | (refine Need.mk ?_ ?_; (focus (((conv => whnf); (repeat (first | (refine Need.mk (by first | rfl | omega | (simp; done)) ?_; conv => whnf) | (refine Pick.mk ?_ ?_ ?_; rotate_left; (focus (first | with_reducible exact xor_u8 _ _ | (with_reducible refine xor_i64 ?_ ?_; all_goals omega) | (with_reducible refine xor_u32 ?_ ?_; all_goals omega) | assumption | with_reducible exact set_byN _ _ _ _ | with_reducible exact set_byI _ _ _ _ | with_reducible exact set_inN _ _ _ _ | with_reducible exact set_inI _ _ _ _ | with_reducible exact set_stN _ _ _ _ | with_reducible exact set_tsN _ _ _ _ | with_reducible exact set_tsI _ _ _ _ | with_reducible exact set_boN _ _ _ _ | with_reducible exact set_boI _ _ _ _ | (with_reducible refine get_mapN _ _ _ ?_; first | omega | (simp; omega)) | (with_reducible refine get_mapI _ _ _ ?_ ?_ <;> first | omega | (simp; omega)) | exact bs_beq _ _ | exact bs_less _ _ | exact bs_leq _ _ | with_reducible exact bs_app _ _ | (refine bs_get _ _ ?_; omega) | (refine bs_int _ _ ?_ ?_ <;> omega) | with_reducible exact sl_map0 _ _ _ | with_reducible exact sl_mapN _ _ _ | with_reducible exact sl_map _ _ _ _ | exact bs_extract0 _ _ | exact bs_extractN _ _ | exact bs_extract _ _ _ | (refine bnd_id ?_; omega) | (refine bnd_sub ?_ ?_ <;> omega) | (refine bnd_add ?_; omega) | (refine bnd_subN ?_ ?_ <;> omega) | (refine bnd_int ?_ ?_ <;> omega) | ((show @Eq Nat (_ + Int.toNat _ * _) _); simp only [Int.toNat_natCast, Nat.zero_add, Nat.mul_one]; rfl) | ((show @Eq (List _) (List.set [_] _ _) _); simp only [List.set_cons_zero]; rfl) | exact List.length_map _ | exact size_bs _ | (simp only [List.length_map, List.length_append, List.length_cons, List.length_nil, List.length_replicate, Nat.zero_add]; rfl) | with_reducible exact List.nil_append _ | with_reducible exact map_app _ _ _ | exact map_snoc byD _ _ | exact map_snoc inD _ _ | exact map_snoc stD _ _ | exact map_snoc tsD _ _ | (simp only [chunks]; rfl) | (refine wid ?_ ?_ <;> omega) | exact wby _ | with_reducible exact wby32 _ | with_reducible exact wu32 _ | exact wby64 _ | exact shr8 _ | exact shr16 _ | exact shr24 _ | exact shr32 _ | (refine tmodn ?_; omega) | (refine wdiv ?_ ?_ ?_ <;> omega) | exact wbyte _ | exact natlit _ | exact rep_by _ | exact rep_in _ | exact rep_bo _ | exact rep_st _ | (refine pick_nat _ _ _ ?_; omega) | (refine pick_int _ _ _ ?_ ?_ <;> omega) | (refine SlOf.full ?_; first | (simp; done) | (simp; omega)) | (with_reducible refine SlOf.pre _ _ ?_; first | omega | (simp; omega)) | (refine SlF.self _ _ ?_ ?_; (first | rfl | omega | (simp; done) | (simp; omega)); (exact fun _ => rfl)) | (refine SlF.pre _ _ ?_ ?_; (first | omega | (simp; omega)); (exact fun _ => rfl)) | (refine SlF.same ?_ ?_; (first | rfl | omega | (simp; done) | (simp; omega)); (first | exact fz_self _ _ (fun _ => rfl) | exact fz_pl rfl | (refine Fz.append ?_ ?_ <;> first | exact fz_self _ _ (fun _ => rfl) | exact fz_pl rfl) | (refine Fz.append (Fz.append ?_ ?_) ?_ <;> first | exact fz_self _ _ (fun _ => rfl) | exact fz_pl rfl))) | (simp only [Int.toNat_natCast, Nat.zero_add, Nat.mul_one]; rfl) | ((show @Eq (Option CV) _ _); rfl) | ((fail_if_success (show @Eq (Option _) _ _)); rfl) | ((show @Eq (Option _) _ _); simp only [List.getElem?_cons_zero, List.getElem?_cons_succ]; done) | ((show @Eq (Option _) _ _); simp only [List.getElem?_cons_zero, List.getElem?_cons_succ]; rfl) | with_reducible rfl)); conv => whnf))); exact Done.mk trivial))); conv => whnf)
        | (refine Pick.mk ?_ ?_ ?_; rotate_left; (focus (first | (refine wid ?_ ?_ <;> omega) | (refine pick_nat _ _ _ ?_; omega))); conv => whnf)
        | (refine SeqJ.thru ?_; conv => whnf)
        | (refine br_dec (fun _ => ?_) (fun _ => ?_) <;> first | (exfalso; omega) | contradiction | conv => whnf)
        | (refine br_not ?_; conv => whnf)
        | (refine br_bne (fun _ => ?_) (fun _ => ?_) <;> first | (exfalso; omega) | contradiction | conv => whnf)
        | (refine br_beq (fun _ => ?_) (fun _ => ?_) <;> first | (exfalso; omega) | contradiction | conv => whnf))
      · refine Out.mk true [] [] ?_
        try (conv => whnf)
        exact ⟨dec_f fun h => by have := (h a ha16).1; rw [e3] at this; omega, rfl⟩
      · obtain ⟨p, q, e, hp, hm, hat⟩ := own_find hg.sorted a o.deps[a] (by omega) (by omega)
        have hL : l.length = p.length + (own l a).length + q.length := by conv => lhs; rw [e]
                                                                          simp only [List.length_append]
        have e4 := hat (by omega)
        refine Hand.mk [] ?_
        try (conv => whnf)
        refine CallW.d (s_l08Find l p (own l a) q a o.deps[a] e hp hm (by omega) (by omega) hle) ?_
        try (conv => whnf)
        repeat (first
          | (refine Need.mk ?_ ?_; (focus (((conv => whnf); (repeat (first | (refine Need.mk (by first | rfl | omega | (simp; done)) ?_; conv => whnf) | (refine Pick.mk ?_ ?_ ?_; rotate_left; (focus (first | with_reducible exact xor_u8 _ _ | (with_reducible refine xor_i64 ?_ ?_; all_goals omega) | (with_reducible refine xor_u32 ?_ ?_; all_goals omega) | assumption | with_reducible exact set_byN _ _ _ _ | with_reducible exact set_byI _ _ _ _ | with_reducible exact set_inN _ _ _ _ | with_reducible exact set_inI _ _ _ _ | with_reducible exact set_stN _ _ _ _ | with_reducible exact set_tsN _ _ _ _ | with_reducible exact set_tsI _ _ _ _ | with_reducible exact set_boN _ _ _ _ | with_reducible exact set_boI _ _ _ _ | (with_reducible refine get_mapN _ _ _ ?_; first | omega | (simp; omega)) | (with_reducible refine get_mapI _ _ _ ?_ ?_ <;> first | omega | (simp; omega)) | exact bs_beq _ _ | exact bs_less _ _ | exact bs_leq _ _ | with_reducible exact bs_app _ _ | (refine bs_get _ _ ?_; omega) | (refine bs_int _ _ ?_ ?_ <;> omega) | with_reducible exact sl_map0 _ _ _ | with_reducible exact sl_mapN _ _ _ | with_reducible exact sl_map _ _ _ _ | exact bs_extract0 _ _ | exact bs_extractN _ _ | exact bs_extract _ _ _ | (refine bnd_id ?_; omega) | (refine bnd_sub ?_ ?_ <;> omega) | (refine bnd_add ?_; omega) | (refine bnd_subN ?_ ?_ <;> omega) | (refine bnd_int ?_ ?_ <;> omega) | ((show @Eq Nat (_ + Int.toNat _ * _) _); simp only [Int.toNat_natCast, Nat.zero_add, Nat.mul_one]; rfl) | ((show @Eq (List _) (List.set [_] _ _) _); simp only [List.set_cons_zero]; rfl) | exact List.length_map _ | exact size_bs _ | (simp only [List.length_map, List.length_append, List.length_cons, List.length_nil, List.length_replicate, Nat.zero_add]; rfl) | with_reducible exact List.nil_append _ | with_reducible exact map_app _ _ _ | exact map_snoc byD _ _ | exact map_snoc inD _ _ | exact map_snoc stD _ _ | exact map_snoc tsD _ _ | (simp only [chunks]; rfl) | (refine wid ?_ ?_ <;> omega) | exact wby _ | with_reducible exact wby32 _ | with_reducible exact wu32 _ | exact wby64 _ | exact shr8 _ | exact shr16 _ | exact shr24 _ | exact shr32 _ | (refine tmodn ?_; omega) | (refine wdiv ?_ ?_ ?_ <;> omega) | exact wbyte _ | exact natlit _ | exact rep_by _ | exact rep_in _ | exact rep_bo _ | exact rep_st _ | (refine pick_nat _ _ _ ?_; omega) | (refine pick_int _ _ _ ?_ ?_ <;> omega) | (refine SlOf.full ?_; first | (simp; done) | (simp; omega)) | (with_reducible refine SlOf.pre _ _ ?_; first | omega | (simp; omega)) | (refine SlF.self _ _ ?_ ?_; (first | rfl | omega | (simp; done) | (simp; omega)); (exact fun _ => rfl)) | (refine SlF.pre _ _ ?_ ?_; (first | omega | (simp; omega)); (exact fun _ => rfl)) | (refine SlF.same ?_ ?_; (first | rfl | omega | (simp; done) | (simp; omega)); (first | exact fz_self _ _ (fun _ => rfl) | exact fz_pl rfl | (refine Fz.append ?_ ?_ <;> first | exact fz_self _ _ (fun _ => rfl) | exact fz_pl rfl) | (refine Fz.append (Fz.append ?_ ?_) ?_ <;> first | exact fz_self _ _ (fun _ => rfl) | exact fz_pl rfl))) | (simp only [Int.toNat_natCast, Nat.zero_add, Nat.mul_one]; rfl) | ((show @Eq (Option CV) _ _); rfl) | ((fail_if_success (show @Eq (Option _) _ _)); rfl) | ((show @Eq (Option _) _ _); simp only [List.getElem?_cons_zero, List.getElem?_cons_succ]; done) | ((show @Eq (Option _) _ _); simp only [List.getElem?_cons_zero, List.getElem?_cons_succ]; rfl) | with_reducible rfl)); conv => whnf))); exact Done.mk trivial))); conv => whnf)
          | (refine Pick.mk ?_ ?_ ?_; rotate_left; (focus ((refine pick_int _ _ _ ?_ ?_ <;> omega))); conv => whnf))
        refine Hand.mk [] ?_
        try (conv => whnf)
        refine CallW.d (s_l08Stamp (l[((p.length : Int) + o.deps[a] - 1).toNat]'(by omega))) ?_
        try (conv => whnf)
        repeat (refine Need.mk ?_ ?_; (focus (((conv => whnf); (repeat (first | (refine Need.mk (by first | rfl | omega | (simp; done)) ?_; conv => whnf) | (refine Pick.mk ?_ ?_ ?_; rotate_left; (focus (first | with_reducible exact xor_u8 _ _ | (with_reducible refine xor_i64 ?_ ?_; all_goals omega) | (with_reducible refine xor_u32 ?_ ?_; all_goals omega) | assumption | with_reducible exact set_byN _ _ _ _ | with_reducible exact set_byI _ _ _ _ | with_reducible exact set_inN _ _ _ _ | with_reducible exact set_inI _ _ _ _ | with_reducible exact set_stN _ _ _ _ | with_reducible exact set_tsN _ _ _ _ | with_reducible exact set_tsI _ _ _ _ | with_reducible exact set_boN _ _ _ _ | with_reducible exact set_boI _ _ _ _ | (with_reducible refine get_mapN _ _ _ ?_; first | omega | (simp; omega)) | (with_reducible refine get_mapI _ _ _ ?_ ?_ <;> first | omega | (simp; omega)) | exact bs_beq _ _ | exact bs_less _ _ | exact bs_leq _ _ | with_reducible exact bs_app _ _ | (refine bs_get _ _ ?_; omega) | (refine bs_int _ _ ?_ ?_ <;> omega) | with_reducible exact sl_map0 _ _ _ | with_reducible exact sl_mapN _ _ _ | with_reducible exact sl_map _ _ _ _ | exact bs_extract0 _ _ | exact bs_extractN _ _ | exact bs_extract _ _ _ | (refine bnd_id ?_; omega) | (refine bnd_sub ?_ ?_ <;> omega) | (refine bnd_add ?_; omega) | (refine bnd_subN ?_ ?_ <;> omega) | (refine bnd_int ?_ ?_ <;> omega) | ((show @Eq Nat (_ + Int.toNat _ * _) _); simp only [Int.toNat_natCast, Nat.zero_add, Nat.mul_one]; rfl) | ((show @Eq (List _) (List.set [_] _ _) _); simp only [List.set_cons_zero]; rfl) | exact List.length_map _ | exact size_bs _ | (simp only [List.length_map, List.length_append, List.length_cons, List.length_nil, List.length_replicate, Nat.zero_add]; rfl) | with_reducible exact List.nil_append _ | with_reducible exact map_app _ _ _ | exact map_snoc byD _ _ | exact map_snoc inD _ _ | exact map_snoc stD _ _ | exact map_snoc tsD _ _ | (simp only [chunks]; rfl) | (refine wid ?_ ?_ <;> omega) | exact wby _ | with_reducible exact wby32 _ | with_reducible exact wu32 _ | exact wby64 _ | exact shr8 _ | exact shr16 _ | exact shr24 _ | exact shr32 _ | (refine tmodn ?_; omega) | (refine wdiv ?_ ?_ ?_ <;> omega) | exact wbyte _ | exact natlit _ | exact rep_by _ | exact rep_in _ | exact rep_bo _ | exact rep_st _ | (refine pick_nat _ _ _ ?_; omega) | (refine pick_int _ _ _ ?_ ?_ <;> omega) | (refine SlOf.full ?_; first | (simp; done) | (simp; omega)) | (with_reducible refine SlOf.pre _ _ ?_; first | omega | (simp; omega)) | (refine SlF.self _ _ ?_ ?_; (first | rfl | omega | (simp; done) | (simp; omega)); (exact fun _ => rfl)) | (refine SlF.pre _ _ ?_ ?_; (first | omega | (simp; omega)); (exact fun _ => rfl)) | (refine SlF.same ?_ ?_; (first | rfl | omega | (simp; done) | (simp; omega)); (first | exact fz_self _ _ (fun _ => rfl) | exact fz_pl rfl | (refine Fz.append ?_ ?_ <;> first | exact fz_self _ _ (fun _ => rfl) | exact fz_pl rfl) | (refine Fz.append (Fz.append ?_ ?_) ?_ <;> first | exact fz_self _ _ (fun _ => rfl) | exact fz_pl rfl))) | (simp only [Int.toNat_natCast, Nat.zero_add, Nat.mul_one]; rfl) | ((show @Eq (Option CV) _ _); rfl) | ((fail_if_success (show @Eq (Option _) _ _)); rfl) | ((show @Eq (Option _) _ _); simp only [List.getElem?_cons_zero, List.getElem?_cons_succ]; done) | ((show @Eq (Option _) _ _); simp only [List.getElem?_cons_zero, List.getElem?_cons_succ]; rfl) | with_reducible rfl)); conv => whnf))); exact Done.mk trivial))); conv => whnf)
        refine Hand.mk [] ?_
        try (conv => whnf)
        refine CallW.d (s_l08Stamp o) ?_
        try (conv => whnf)
        refine Hand.mk [] ?_
        try (conv => whnf)
        refine CallW.d (s_StampLess _ _ o.time o.actor) ?_
        try (conv => whnf)
        try (conv => whnf)
        repeat' (first
          | (refine Pick.mk ?_ ?_ ?_; rotate_left; (focus ((refine wid ?_ ?_ <;> omega))); conv => whnf)
          | (refine br_dec (fun _ => ?_) (fun _ => ?_) <;> first | (exfalso; omega) | contradiction | conv => whnf)
          | (refine br_not ?_; conv => whnf)
          | (refine br_bne (fun _ => ?_) (fun _ => ?_) <;> first | (exfalso; omega) | contradiction | conv => whnf)
          | (refine br_beq (fun _ => ?_) (fun _ => ?_) <;> first | (exfalso; omega) | contradiction | conv => whnf))
        · rename_i hst
          refine Pick.mk (a + 1) ⟨⟨by omega, step ⟨by rw [e3]; omega, fun _ x hx => by rw [e3, e4] at hx; injection hx with hx; subst hx; exact hst⟩⟩, by omega⟩ (LeX.of ?_)
          try (conv => whnf)
          repeat (refine Need.mk ?_ ?_; (focus (first | omega | (simp; done))); conv => whnf)
          trivial
        · rename_i hst
          refine Out.mk true [] [] ?_
          try (conv => whnf)
          exact ⟨dec_f fun h => hst ((h a ha16).2 (by rw [e3]; omega) _ (by rw [e3]; exact e4)), rfl⟩
      · refine Pick.mk (a + 1) ⟨⟨by omega, step ⟨by rw [e3]; omega, fun h => by rw [e3] at h; omega⟩⟩, by omega⟩ (LeX.of ?_)
        try (conv => whnf)
        repeat (refine Need.mk ?_ ?_; (focus (first | omega | (simp; done))); conv => whnf)
        trivial
    · try (conv => whnf)
      repeat' (first
        | (refine SeqJ.thru ?_; conv => whnf)
        | (refine br_dec (fun _ => ?_) (fun _ => ?_) <;> first | (exfalso; omega) | contradiction | conv => whnf)
        | (refine br_not ?_; conv => whnf)
        | (refine br_bne (fun _ => ?_) (fun _ => ?_) <;> first | (exfalso; omega) | contradiction | conv => whnf)
        | (refine br_beq (fun _ => ?_) (fun _ => ?_) <;> first | (exfalso; omega) | contradiction | conv => whnf))
      refine Out.mk true [] [] ?_
      try (conv => whnf)
      exact ⟨dec_t fun b hb => hca b (by omega), rfl⟩
end Go.Proofs.Ytpdjehnlejjfmaa.D
/- Operations and logs: copied, compared, put in; by the reference. -/
namespace Go.Proofs.Ytpdjehnlejjfmaa.D
open Go.RowKit
set_option maxRecDepth 100000
set_option maxHeartbeats 4000000
set_option linter.unusedVariables false
set_option linter.unusedSimpArgs false

theorem opv_ext {a b : OpV} (h1 : a.actor = b.actor) (h2 : a.seq = b.seq) (h3 : a.time = b.time) (h4 : a.deps = b.deps) (h5 : a.kind = b.kind) (h6 : a.obj = b.obj) (h7 : a.n = b.n) (h8 : a.undo = b.undo) (h9 : a.atT = b.atT) (h10 : a.atA = b.atA) (h11 : a.key = b.key) (h12 : a.text = b.text) : a = b := by
 cases a; cases b; simp_all
theorem opv_iff {a b : OpV} : a = b ↔ a.actor = b.actor ∧ a.seq = b.seq ∧ a.time = b.time ∧ a.deps = b.deps ∧ a.kind = b.kind ∧ a.obj = b.obj ∧ a.n = b.n ∧ a.undo = b.undo ∧ a.atT = b.atT ∧ a.atA = b.atA ∧ a.key = b.key ∧ a.text = b.text :=
 ⟨fun h => by subst h; simp, fun ⟨a, b, c, d, e, f, g, i, j, k, l, m⟩ => opv_ext a b c d e f g i j k l m⟩
noncomputable instance : DecidableEq OpV := fun _ _ => Classical.propDecidable _
theorem s_l05Same (a b : List Int) (ha : a.length ≤ 2 ^ 40) (hb : b.length ≤ 2 ^ 40) : CallD Try.prog id_spec_l05Same [vN a, vN b] [] (vB (decide (a = b))) [] := by
 refine F_spec_l05Same ?_
 try (conv => whnf)
 repeat' (first
  | (refine Pick.mk ?_ ?_ ?_; rotate_left; (focus (exact List.length_map _)); conv => whnf)
  | (refine SeqJ.thru ?_; conv => whnf)
  | (refine br_dec (fun _ => ?_) (fun _ => ?_) <;> first | (exfalso; omega) | contradiction | conv => whnf)
  | (refine br_not ?_; conv => whnf)
  | (refine br_bne (fun _ => ?_) (fun _ => ?_) <;> first | (exfalso; omega) | contradiction | conv => whnf)
  | (refine br_beq (fun _ => ?_) (fun _ => ?_) <;> first | (exfalso; omega) | contradiction | conv => whnf))
 ·rename_i hlen
  refine LoopE.mk (fun i : Nat => mk [(0, vN a), (1, vN b), (5, vI .i64 i)] []) (fun i => i ≤ a.length ∧ a.take i = b.take i) (fun i => a.length - i) 0 ⟨by omega, by simp⟩ (LeX.of ?_) ?_
  ·try (conv => whnf)
   repeat (refine Need.mk ?_ ?_; (focus (first | omega | (simp; done))); conv => whnf)
   trivial
  ·rintro i ⟨hi, he⟩
   try (conv => whnf)
   repeat' (first
    | (refine Pick.mk ?_ ?_ ?_; rotate_left; (focus (first | exact List.length_map _ | (refine wid ?_ ?_ <;> omega) | (refine pick_nat _ _ _ ?_; omega))); conv => whnf)
    | (refine SeqJ.thru ?_; conv => whnf)
    | (refine br_dec (fun _ => ?_) (fun _ => ?_) <;> first | (exfalso; omega) | contradiction | conv => whnf)
    | (refine br_not ?_; conv => whnf)
    | (refine br_bne (fun _ => ?_) (fun _ => ?_) <;> first | (exfalso; omega) | contradiction | conv => whnf)
    | (refine br_beq (fun _ => ?_) (fun _ => ?_) <;> first | (exfalso; omega) | contradiction | conv => whnf))
   all_goals
    first
     |skip
      refine Pick.mk (i + 1) ⟨⟨by omega, take_eq_step (by omega) (by omega) he (by assumption)⟩, by omega⟩ (LeX.of ?_)
      try (conv => whnf)
      repeat (refine Need.mk ?_ ?_; (focus (first | omega | (simp; done))); conv => whnf)
      trivial
     |skip
      refine Out.mk true [] [] ?_
      try (conv => whnf)
      exact ⟨dec_f fun h => by subst h; contradiction, rfl⟩
     |skip
      refine Out.mk true [] [] ?_
      try (conv => whnf)
      exact ⟨dec_t (by rw [← List.take_of_length_le (show a.length ≤ i by omega), he, List.take_of_length_le (show b.length ≤ i by omega)]), rfl⟩
 ·rename_i hlen
  refine Out.mk true [] [] ?_
  try (conv => whnf)
  exact ⟨dec_f fun h => by subst h; exact hlen rfl, rfl⟩
theorem l_sameInts2 (a b : List Int) (ha : a.length ≤ 2 ^ 40) (hb : b.length ≤ 2 ^ 40) : CallD Try.prog id_laws_sameInts [vN a, vN b] [] (vB (decide (a = b))) [] := by
 refine F_laws_sameInts ?_
 try (conv => whnf)
 repeat' (first
  | (refine Pick.mk ?_ ?_ ?_; rotate_left; (focus (exact List.length_map _)); conv => whnf)
  | (refine SeqJ.thru ?_; conv => whnf)
  | (refine br_dec (fun _ => ?_) (fun _ => ?_) <;> first | (exfalso; omega) | contradiction | conv => whnf)
  | (refine br_not ?_; conv => whnf)
  | (refine br_bne (fun _ => ?_) (fun _ => ?_) <;> first | (exfalso; omega) | contradiction | conv => whnf)
  | (refine br_beq (fun _ => ?_) (fun _ => ?_) <;> first | (exfalso; omega) | contradiction | conv => whnf))
 ·rename_i hlen
  refine LoopE.mk (fun i : Nat => mk [(0, vN a), (1, vN b), (5, vI .i64 i)] []) (fun i => i ≤ a.length ∧ a.take i = b.take i) (fun i => a.length - i) 0 ⟨by omega, by simp⟩ (LeX.of ?_) ?_
  ·try (conv => whnf)
   repeat (refine Need.mk ?_ ?_; (focus (first | omega | (simp; done))); conv => whnf)
   trivial
  ·rintro i ⟨hi, he⟩
   try (conv => whnf)
   repeat' (first
    | (refine Pick.mk ?_ ?_ ?_; rotate_left; (focus (first | exact List.length_map _ | (refine wid ?_ ?_ <;> omega) | (refine pick_nat _ _ _ ?_; omega))); conv => whnf)
    | (refine SeqJ.thru ?_; conv => whnf)
    | (refine br_dec (fun _ => ?_) (fun _ => ?_) <;> first | (exfalso; omega) | contradiction | conv => whnf)
    | (refine br_not ?_; conv => whnf)
    | (refine br_bne (fun _ => ?_) (fun _ => ?_) <;> first | (exfalso; omega) | contradiction | conv => whnf)
    | (refine br_beq (fun _ => ?_) (fun _ => ?_) <;> first | (exfalso; omega) | contradiction | conv => whnf))
   all_goals
    first
     |skip
      refine Pick.mk (i + 1) ⟨⟨by omega, take_eq_step (by omega) (by omega) he (by assumption)⟩, by omega⟩ (LeX.of ?_)
      try (conv => whnf)
      repeat (refine Need.mk ?_ ?_; (focus (first | omega | (simp; done))); conv => whnf)
      trivial
     |skip
      refine Out.mk true [] [] ?_
      try (conv => whnf)
      exact ⟨dec_f fun h => by subst h; contradiction, rfl⟩
     |skip
      refine Out.mk true [] [] ?_
      try (conv => whnf)
      exact ⟨dec_t (by rw [← List.take_of_length_le (show a.length ≤ i by omega), he, List.take_of_length_le (show b.length ≤ i by omega)]), rfl⟩
 ·rename_i hlen
  refine Out.mk true [] [] ?_
  try (conv => whnf)
  exact ⟨dec_f fun h => by subst h; exact hlen rfl, rfl⟩
theorem s_l08SameOp (a b : OpV) (ha : a.deps.length ≤ 2 ^ 40) (hb : b.deps.length ≤ 2 ^ 40) : CallD Try.prog id_spec_l08SameOp [vO a, vO b] [] (vB (decide (a = b))) [] := by
 refine F_spec_l08SameOp ?_
 try (conv => whnf)
 repeat' (first
  | (refine br_dec (fun _ => ?_) (fun _ => ?_) <;> first | (exfalso; omega) | contradiction | conv => whnf)
  | (refine br_not ?_; conv => whnf)
  | (refine br_bne (fun _ => ?_) (fun _ => ?_) <;> first | (exfalso; omega) | contradiction | conv => whnf)
  | (refine br_beq (fun _ => ?_) (fun _ => ?_) <;> first | (exfalso; omega) | contradiction | conv => whnf)
  | (refine br_and ?_; conv => whnf))
 refine Hand.mk [] ?_
 try (conv => whnf)
 refine CallW.d (s_l05Same a.deps b.deps ha hb) ?_
 try (conv => whnf)
 try (conv => whnf)
 repeat' (first
  | (refine Pick.mk ?_ ?_ ?_; rotate_left; (focus (exact bs_beq _ _)); conv => whnf)
  | (refine br_dec (fun _ => ?_) (fun _ => ?_) <;> first | (exfalso; omega) | contradiction | conv => whnf)
  | (refine br_not ?_; conv => whnf)
  | (refine br_bne (fun _ => ?_) (fun _ => ?_) <;> first | (exfalso; omega) | contradiction | conv => whnf)
  | (refine br_beq (fun _ => ?_) (fun _ => ?_) <;> first | (exfalso; omega) | contradiction | conv => whnf)
  | (refine br_and ?_; conv => whnf))
 all_goals
  first
   |skip
    refine Out.mk true [] [] ?_
    try (conv => whnf)
    first
     | exact ⟨dec_f (by rw [opv_iff]; intro h; omega), rfl⟩
     | exact ⟨dec_f (by rintro rfl; contradiction), rfl⟩
     | exact ⟨dec_b (by rw [opv_iff]; simp only [*]; simp), rfl⟩
theorem s_l08CopyOp (o : OpV) (hl : o.deps.length ≤ 2 ^ 39) : CallD Try.prog id_spec_l08CopyOp [vO o] [] (vOw o) [.own 1 (o.deps.map inD)] := by
 refine F_spec_l08CopyOp ?_
 try (conv => whnf)
 refine Hand.mk [] ?_
 try (conv => whnf)
 refine CallW.d (s_l02Copy o.deps (by omega)) ?_
 try (conv => whnf)
 refine Out.mk false [0, 1, 2, 3, 4] [] ?_
 try (conv => whnf)
 repeat (refine Need.mk ?_ ?_; (focus ((first | exact flat_by _ | exact flat_in _ | exact flat_st _ | exact flat_ts _ | exact flat_bo _ | exact flat_cl rfl))); conv => whnf)
 exact ⟨rfl, rfl⟩
theorem s_l08CopyF (l : List OpV) (hl : l.length ≤ 2 ^ 30) (hd : ∀ o ∈ l, o.deps.length ≤ 2 ^ 39) : CallN Try.prog id_spec_l08Copy [vL l] [] [] (vL l) [] := by
 refine F_spec_l08Copy ?_
 try (conv => whnf)
 repeat (refine Pick.mk ?_ ?_ ?_; rotate_left; (focus ((simp only [chunks]; rfl))); conv => whnf)
 refine LoopE.mk (fun i : Nat => mk [(0, vL l), (3, .one (.os (.v 8192) 12 0 i)), (4, vI .i64 i)] [(8192, .own 12 ((l.take i).map oD))]) (fun i => i ≤ l.length) (fun i => l.length - i) 0 (by omega) (LeX.of ?_) ?_
 ·try (conv => whnf)
  repeat (refine Need.mk ?_ ?_; (focus (first | omega | (simp; done))); conv => whnf)
  trivial
 ·intro i hi
  try (conv => whnf)
  repeat' (first
   | (refine Pick.mk ?_ ?_ ?_; rotate_left; (focus (first | exact List.length_map _ | (refine pick_nat _ _ _ ?_; omega))); conv => whnf)
   | (refine SeqJ.thru ?_; conv => whnf)
   | (refine br_dec (fun _ => ?_) (fun _ => ?_) <;> first | (exfalso; omega) | contradiction | conv => whnf)
   | (refine br_not ?_; conv => whnf)
   | (refine br_bne (fun _ => ?_) (fun _ => ?_) <;> first | (exfalso; omega) | contradiction | conv => whnf)
   | (refine br_beq (fun _ => ?_) (fun _ => ?_) <;> first | (exfalso; omega) | contradiction | conv => whnf))
  ·refine Hand.mk [] ?_
   try (conv => whnf)
   refine CallW.d (s_l08CopyOp (l[i]'(by omega)) (hd _ (List.getElem_mem _))) ?_
   try (conv => whnf)
   repeat (first
    | (refine Need.mk ?_ ?_; (focus ((simp only [List.length_map, List.length_append, List.length_cons, List.length_nil, List.length_replicate]; omega))); conv => whnf)
    | (refine Pick.mk ?_ ?_ ?_; rotate_left; (focus (first | (simp only [List.length_map, List.length_append, List.length_cons, List.length_nil, List.length_replicate, Nat.zero_add]; rfl) | (simp only [chunks]; rfl) | (refine wid ?_ ?_ <;> omega) | (refine SlOf.full ?_; first | (simp; done) | (simp; omega)) | (refine SlF.self _ _ ?_ ?_; (first | rfl | omega | (simp; done) | (simp; omega)); (exact fun _ => rfl)) | ((fail_if_success (show @Eq (Option _) _ _)); rfl))); conv => whnf)
    | (refine OwnQ.mk false ?_; conv => whnf))
   refine Pick.mk (i + 1) (by constructor <;> first | omega | (simp only []; omega)) (LeX.of ?_)
   try (conv => whnf)
   repeat (refine Need.mk ?_ ?_; (focus (first | omega | (simp; done))); conv => whnf)
   refine Need.mk (by rw [List.take_succ_eq_append_getElem (show i < l.length by omega), List.map_append]; rfl) ?_
   try (conv => whnf)
   trivial
  ·refine Out.mk true [] [] ?_
   try (conv => whnf)
   repeat (refine Pick.mk ?_ ?_ ?_; rotate_left; (focus ((refine SlF.self _ _ ?_ ?_; (first | rfl | omega | (simp; done) | (simp; omega)); (exact fun _ => rfl)))); conv => whnf)
   exact ⟨by rw [List.take_of_length_le (by omega)], rfl⟩
theorem s_l08Copy (l : List OpV) (hl : l.length ≤ 2 ^ 30) (hd : ∀ o ∈ l, o.deps.length ≤ 2 ^ 39) : CallD Try.prog id_spec_l08Copy [vL l] [] (.one (.os (.v 0) 12 0 l.length)) [.own 12 (l.map oO)] := by
 refine F_spec_l08Copy ?_
 try (conv => whnf)
 repeat (refine Pick.mk ?_ ?_ ?_; rotate_left; (focus ((simp only [chunks]; rfl))); conv => whnf)
 refine LoopE.mk (fun i : Nat => mk [(0, vL l), (3, .one (.os (.v 8192) 12 0 i)), (4, vI .i64 i)] [(8192, .own 12 ((l.take i).map oO))]) (fun i => i ≤ l.length) (fun i => l.length - i) 0 (by omega) (LeX.of ?_) ?_
 ·try (conv => whnf)
  repeat (refine Need.mk ?_ ?_; (focus (first | omega | (simp; done))); conv => whnf)
  trivial
 ·intro i hi
  try (conv => whnf)
  repeat' (first
   | (refine Pick.mk ?_ ?_ ?_; rotate_left; (focus (first | exact List.length_map _ | (refine pick_nat _ _ _ ?_; omega))); conv => whnf)
   | (refine SeqJ.thru ?_; conv => whnf)
   | (refine br_dec (fun _ => ?_) (fun _ => ?_) <;> first | (exfalso; omega) | contradiction | conv => whnf)
   | (refine br_not ?_; conv => whnf)
   | (refine br_bne (fun _ => ?_) (fun _ => ?_) <;> first | (exfalso; omega) | contradiction | conv => whnf)
   | (refine br_beq (fun _ => ?_) (fun _ => ?_) <;> first | (exfalso; omega) | contradiction | conv => whnf))
  ·refine Hand.mk [] ?_
   try (conv => whnf)
   refine CallW.d (s_l08CopyOp (l[i]'(by omega)) (hd _ (List.getElem_mem _))) ?_
   try (conv => whnf)
   repeat (first
    | (refine Need.mk ?_ ?_; (focus (first | (simp; done) | (simp; omega) | (first | exact fz_self _ _ (fun _ => rfl) | exact fz_pl rfl | (refine Fz.append ?_ ?_ <;> first | exact fz_self _ _ (fun _ => rfl) | exact fz_pl rfl) | (refine Fz.append (Fz.append ?_ ?_) ?_ <;> first | exact fz_self _ _ (fun _ => rfl) | exact fz_pl rfl)))); conv => whnf)
    | (refine Pick.mk ?_ ?_ ?_; rotate_left; (focus (first | (simp only [List.length_map, List.length_append, List.length_cons, List.length_nil, List.length_replicate, Nat.zero_add]; rfl) | (simp only [chunks]; rfl) | (refine wid ?_ ?_ <;> omega) | (refine SlOf.full ?_; first | (simp; done) | (simp; omega)))); conv => whnf)
    | (refine OwnQ.mk true ?_; conv => whnf))
   refine Pick.mk (i + 1) (by constructor <;> first | omega | (simp only []; omega)) (LeX.of ?_)
   try (conv => whnf)
   repeat (refine Need.mk ?_ ?_; (focus (first | omega | (simp; done))); conv => whnf)
   refine Need.mk (by rw [List.take_succ_eq_append_getElem (show i < l.length by omega), List.map_append]; rfl) ?_
   try (conv => whnf)
   trivial
  ·refine Out.mk false [0, 1, 2, 3, 4] [] ?_
   try (conv => whnf)
   obtain rfl : i = l.length := by omega
   rw [List.take_of_length_le (by omega)]
   refine Need.mk (flat_oO l) ?_
   try (conv => whnf)
   exact ⟨rfl, rfl⟩
theorem s_l08KindFits (l : List OpV) (o : OpV) (hl : l.length ≤ 2 ^ 40) : CallD Try.prog id_spec_l08KindFits [vL l, vO o] [] (vB (decide (∀ a ∈ l, a.obj = o.obj → thS a.kind = thS o.kind))) [] := by
 refine F_spec_l08KindFits ?_
 try (conv => whnf)
 refine LoopE.mk (fun i : Nat => mk [(0, vL l), (5, vI .i64 i), (3, .one (.ptr 4096 0))] [(4096, .box (opC o))]) (fun i => i ≤ l.length ∧ ∀ a ∈ l.take i, a.obj = o.obj → thS a.kind = thS o.kind) (fun i => l.length - i) 0 ⟨by omega, by simp⟩ (LeX.of ?_) ?_
 ·try (conv => whnf)
  repeat (refine Need.mk ?_ ?_; (focus (first | omega | (simp; done))); conv => whnf)
  trivial
 ·rintro i ⟨hi, hk⟩
  try (conv => whnf)
  repeat' (first
   | (refine Need.mk ?_ ?_; (focus (((conv => whnf); (repeat (first | (refine Need.mk (by first | rfl | omega | (simp; done)) ?_; conv => whnf) | (refine Pick.mk ?_ ?_ ?_; rotate_left; (focus (first | with_reducible exact xor_u8 _ _ | (with_reducible refine xor_i64 ?_ ?_; all_goals omega) | (with_reducible refine xor_u32 ?_ ?_; all_goals omega) | exact sl_ops _ rfl | assumption | with_reducible exact set_byN _ _ _ _ | with_reducible exact set_byI _ _ _ _ | with_reducible exact set_inN _ _ _ _ | with_reducible exact set_inI _ _ _ _ | with_reducible exact set_stN _ _ _ _ | with_reducible exact set_tsN _ _ _ _ | with_reducible exact set_tsI _ _ _ _ | with_reducible exact set_boN _ _ _ _ | with_reducible exact set_boI _ _ _ _ | (with_reducible refine get_mapN _ _ _ ?_; first | omega | (simp; omega)) | (with_reducible refine get_mapI _ _ _ ?_ ?_ <;> first | omega | (simp; omega)) | exact bs_beq _ _ | exact bs_less _ _ | exact bs_leq _ _ | with_reducible exact bs_app _ _ | (refine bs_get _ _ ?_; omega) | (refine bs_int _ _ ?_ ?_ <;> omega) | with_reducible exact sl_map0 _ _ _ | with_reducible exact sl_mapN _ _ _ | with_reducible exact sl_map _ _ _ _ | exact bs_extract0 _ _ | exact bs_extractN _ _ | exact bs_extract _ _ _ | (refine bnd_id ?_; omega) | (refine bnd_sub ?_ ?_ <;> omega) | (refine bnd_add ?_; omega) | (refine bnd_subN ?_ ?_ <;> omega) | (refine bnd_int ?_ ?_ <;> omega) | ((show @Eq Nat (_ + Int.toNat _ * _) _); simp only [Int.toNat_natCast, Nat.zero_add, Nat.mul_one]; rfl) | ((show @Eq (List _) (List.set [_] _ _) _); simp only [List.set_cons_zero]; rfl) | exact List.length_map _ | exact size_bs _ | (simp only [List.length_map, List.length_append, List.length_cons, List.length_nil, List.length_replicate, Nat.zero_add]; rfl) | with_reducible exact List.nil_append _ | with_reducible exact map_app _ _ _ | exact map_snoc byD _ _ | exact map_snoc inD _ _ | exact map_snoc stD _ _ | exact map_snoc tsD _ _ | (simp only [chunks]; rfl) | (refine wid ?_ ?_ <;> omega) | exact wby _ | with_reducible exact wby32 _ | with_reducible exact wu32 _ | exact wby64 _ | exact shr8 _ | exact shr16 _ | exact shr24 _ | exact shr32 _ | (refine tmodn ?_; omega) | (refine wdiv ?_ ?_ ?_ <;> omega) | exact wbyte _ | exact natlit _ | exact rep_by _ | exact rep_in _ | exact rep_bo _ | exact rep_st _ | (refine pick_nat _ _ _ ?_; omega) | (refine pick_int _ _ _ ?_ ?_ <;> omega) | (refine SlOf.full ?_; first | (simp; done) | (simp; omega)) | (with_reducible refine SlOf.pre _ _ ?_; first | omega | (simp; omega)) | (refine SlF.self _ _ ?_ ?_; (first | rfl | omega | (simp; done) | (simp; omega)); (exact fun _ => rfl)) | (refine SlF.pre _ _ ?_ ?_; (first | omega | (simp; omega)); (exact fun _ => rfl)) | (refine SlF.same ?_ ?_; (first | rfl | omega | (simp; done) | (simp; omega)); (first | exact fz_self _ _ (fun _ => rfl) | exact fz_pl rfl | (refine Fz.append ?_ ?_ <;> first | exact fz_self _ _ (fun _ => rfl) | exact fz_pl rfl) | (refine Fz.append (Fz.append ?_ ?_) ?_ <;> first | exact fz_self _ _ (fun _ => rfl) | exact fz_pl rfl))) | (simp only [Int.toNat_natCast, Nat.zero_add, Nat.mul_one]; rfl) | ((show @Eq (Option CV) _ _); rfl) | ((fail_if_success (show @Eq (Option _) _ _)); rfl) | ((show @Eq (Option _) _ _); simp only [List.getElem?_cons_zero, List.getElem?_cons_succ]; done) | ((show @Eq (Option _) _ _); simp only [List.getElem?_cons_zero, List.getElem?_cons_succ]; rfl) | with_reducible rfl)); conv => whnf))); exact Done.mk trivial))); conv => whnf)
   | (refine Pick.mk ?_ ?_ ?_; rotate_left; (focus (first | exact List.length_map _ | (refine wid ?_ ?_ <;> omega) | (refine pick_nat _ _ _ ?_; omega))); conv => whnf)
   | (refine SeqJ.thru ?_; conv => whnf)
   | (refine br_dec (fun _ => ?_) (fun _ => ?_) <;> first | (exfalso; omega) | contradiction | conv => whnf)
   | (refine br_not ?_; conv => whnf)
   | (refine br_bne (fun _ => ?_) (fun _ => ?_) <;> first | (exfalso; omega) | contradiction | conv => whnf)
   | (refine br_beq (fun _ => ?_) (fun _ => ?_) <;> first | (exfalso; omega) | contradiction | conv => whnf))
  ·refine Hand.mk [] ?_
   try (conv => whnf)
   refine CallW.d (s_l08Thing (l[i]'(by omega)).kind) ?_
   try (conv => whnf)
   repeat (refine Need.mk ?_ ?_; (focus (((conv => whnf); (repeat (first | (refine Need.mk (by first | rfl | omega | (simp; done)) ?_; conv => whnf) | (refine Pick.mk ?_ ?_ ?_; rotate_left; (focus (first | with_reducible exact xor_u8 _ _ | (with_reducible refine xor_i64 ?_ ?_; all_goals omega) | (with_reducible refine xor_u32 ?_ ?_; all_goals omega) | exact sl_ops _ rfl | assumption | with_reducible exact set_byN _ _ _ _ | with_reducible exact set_byI _ _ _ _ | with_reducible exact set_inN _ _ _ _ | with_reducible exact set_inI _ _ _ _ | with_reducible exact set_stN _ _ _ _ | with_reducible exact set_tsN _ _ _ _ | with_reducible exact set_tsI _ _ _ _ | with_reducible exact set_boN _ _ _ _ | with_reducible exact set_boI _ _ _ _ | (with_reducible refine get_mapN _ _ _ ?_; first | omega | (simp; omega)) | (with_reducible refine get_mapI _ _ _ ?_ ?_ <;> first | omega | (simp; omega)) | exact bs_beq _ _ | exact bs_less _ _ | exact bs_leq _ _ | with_reducible exact bs_app _ _ | (refine bs_get _ _ ?_; omega) | (refine bs_int _ _ ?_ ?_ <;> omega) | with_reducible exact sl_map0 _ _ _ | with_reducible exact sl_mapN _ _ _ | with_reducible exact sl_map _ _ _ _ | exact bs_extract0 _ _ | exact bs_extractN _ _ | exact bs_extract _ _ _ | (refine bnd_id ?_; omega) | (refine bnd_sub ?_ ?_ <;> omega) | (refine bnd_add ?_; omega) | (refine bnd_subN ?_ ?_ <;> omega) | (refine bnd_int ?_ ?_ <;> omega) | ((show @Eq Nat (_ + Int.toNat _ * _) _); simp only [Int.toNat_natCast, Nat.zero_add, Nat.mul_one]; rfl) | ((show @Eq (List _) (List.set [_] _ _) _); simp only [List.set_cons_zero]; rfl) | exact List.length_map _ | exact size_bs _ | (simp only [List.length_map, List.length_append, List.length_cons, List.length_nil, List.length_replicate, Nat.zero_add]; rfl) | with_reducible exact List.nil_append _ | with_reducible exact map_app _ _ _ | exact map_snoc byD _ _ | exact map_snoc inD _ _ | exact map_snoc stD _ _ | exact map_snoc tsD _ _ | (simp only [chunks]; rfl) | (refine wid ?_ ?_ <;> omega) | exact wby _ | with_reducible exact wby32 _ | with_reducible exact wu32 _ | exact wby64 _ | exact shr8 _ | exact shr16 _ | exact shr24 _ | exact shr32 _ | (refine tmodn ?_; omega) | (refine wdiv ?_ ?_ ?_ <;> omega) | exact wbyte _ | exact natlit _ | exact rep_by _ | exact rep_in _ | exact rep_bo _ | exact rep_st _ | (refine pick_nat _ _ _ ?_; omega) | (refine pick_int _ _ _ ?_ ?_ <;> omega) | (refine SlOf.full ?_; first | (simp; done) | (simp; omega)) | (with_reducible refine SlOf.pre _ _ ?_; first | omega | (simp; omega)) | (refine SlF.self _ _ ?_ ?_; (first | rfl | omega | (simp; done) | (simp; omega)); (exact fun _ => rfl)) | (refine SlF.pre _ _ ?_ ?_; (first | omega | (simp; omega)); (exact fun _ => rfl)) | (refine SlF.same ?_ ?_; (first | rfl | omega | (simp; done) | (simp; omega)); (first | exact fz_self _ _ (fun _ => rfl) | exact fz_pl rfl | (refine Fz.append ?_ ?_ <;> first | exact fz_self _ _ (fun _ => rfl) | exact fz_pl rfl) | (refine Fz.append (Fz.append ?_ ?_) ?_ <;> first | exact fz_self _ _ (fun _ => rfl) | exact fz_pl rfl))) | (simp only [Int.toNat_natCast, Nat.zero_add, Nat.mul_one]; rfl) | ((show @Eq (Option CV) _ _); rfl) | ((fail_if_success (show @Eq (Option _) _ _)); rfl) | ((show @Eq (Option _) _ _); simp only [List.getElem?_cons_zero, List.getElem?_cons_succ]; done) | ((show @Eq (Option _) _ _); simp only [List.getElem?_cons_zero, List.getElem?_cons_succ]; rfl) | with_reducible rfl)); conv => whnf))); exact Done.mk trivial))); conv => whnf)
   refine Hand.mk [] ?_
   try (conv => whnf)
   refine CallW.d (s_l08Thing o.kind) ?_
   try (conv => whnf)
   try (conv => whnf)
   repeat' (first
    | (refine Pick.mk ?_ ?_ ?_; rotate_left; (focus ((refine wid ?_ ?_ <;> omega))); conv => whnf)
    | (refine br_dec (fun _ => ?_) (fun _ => ?_) <;> first | (exfalso; omega) | contradiction | conv => whnf)
    | (refine br_not ?_; conv => whnf)
    | (refine br_bne (fun _ => ?_) (fun _ => ?_) <;> first | (exfalso; omega) | contradiction | conv => whnf)
    | (refine br_beq (fun _ => ?_) (fun _ => ?_) <;> first | (exfalso; omega) | contradiction | conv => whnf))
   ·refine Pick.mk (i + 1) ⟨⟨by omega, all_next (by omega) hk fun _ => by assumption⟩, by omega⟩ (LeX.of ?_)
    try (conv => whnf)
    repeat (refine Need.mk ?_ ?_; (focus (first | omega | (simp; done))); conv => whnf)
    trivial
   ·refine Out.mk true [] [] ?_
    try (conv => whnf)
    exact ⟨dec_f fun h => absurd (h (l[i]'(by omega)) (List.getElem_mem (by omega)) (by assumption)) (by assumption), rfl⟩
  ·refine Pick.mk (i + 1) ⟨⟨by omega, all_next (by omega) hk fun _ => by contradiction⟩, by omega⟩ (LeX.of ?_)
   try (conv => whnf)
   repeat (refine Need.mk ?_ ?_; (focus (first | omega | (simp; done))); conv => whnf)
   trivial
  ·refine Out.mk true [] [] ?_
   try (conv => whnf)
   exact ⟨dec_t (by rwa [List.take_of_length_le (by omega)] at hk), rfl⟩
def insP (o x : OpV) : Prop := x.actor < o.actor ∨ x.actor = o.actor ∧ x.seq < o.seq
instance (o x : OpV) : Decidable (insP o x) := by unfold insP; infer_instance
def insAt (l : List OpV) (o : OpV) : Nat := (l.takeWhile fun x => decide (insP o x)).length
def insL (l : List OpV) (o : OpV) : List OpV := l.take (insAt l o) ++ [o] ++ l.drop (insAt l o)
theorem insAt_le (l : List OpV) (o : OpV) : insAt l o ≤ l.length := (List.takeWhile_sublist _).length_le
theorem insAt_eq {l : List OpV} {o : OpV} {i : Nat} (hi : i ≤ l.length) (h : ∀ x ∈ l.take i, insP o x) (hn : ∀ hlt : i < l.length, ¬ insP o l[i]) : insAt l o = i := by
 have e : l = l.take i ++ l.drop i := (List.take_append_drop i l).symm
 unfold insAt
 rw [e, List.takeWhile_append_of_pos (fun x hx => by simpa using h x hx)]
 have : (l.drop i).takeWhile (fun x => decide (insP o x)) = [] := by
  rcases Nat.lt_or_ge i l.length with g | g
  ·rw [List.drop_eq_getElem_cons g, List.takeWhile_cons_of_neg (by simpa using hn g)]
  ·rw [List.drop_eq_nil_of_le g]; rfl
 rw [this]; simp; omega
theorem insL_mem {l : List OpV} {o x : OpV} : x ∈ insL l o ↔ x = o ∨ x ∈ l := by
 unfold insL
 have h : x ∈ l ↔ x ∈ l.take (insAt l o) ∨ x ∈ l.drop (insAt l o) := by rw [← List.mem_append, List.take_append_drop]
 simp only [List.mem_append, List.mem_singleton]; rw [h]
 constructor
 ·rintro ((h | h) | h)
  ·exact .inr (.inl h)
  ·exact .inl h
  ·exact .inr (.inr h)
 ·rintro (h | h | h)
  ·exact .inl (.inr h)
  ·exact .inl (.inl h)
  ·exact .inr h
theorem insL_length (l : List OpV) (o : OpV) : (insL l o).length = l.length + 1 := by
 have := insAt_le l o
 simp [insL]; omega
theorem s_l08Insert (l : List OpV) (o : OpV) (hl : l.length ≤ 2 ^ 30) : CallN Try.prog id_spec_l08Insert [vL l, vO o] [] [] (vL (insL l o)) [] := by
 refine F_spec_l08Insert ?_
 try (conv => whnf)
 repeat (refine SeqJ.thru ?_; conv => whnf)
 refine LoopE.mk (fun i : Nat => mk [(0, vL l), (5, vI .i64 i), (3, .one (.ptr 4096 0)), (4, .one .nil)] [(4096, .box (opC o))]) (fun i => i ≤ l.length ∧ ∀ a ∈ l.take i, insP o a) (fun i => l.length - i) 0 ⟨by omega, by simp⟩ (LeX.of ?_) ?_
 ·try (conv => whnf)
  repeat (refine Need.mk ?_ ?_; (focus (first | omega | (simp; done))); conv => whnf)
  trivial
 ·rintro i ⟨hi, hk⟩
  by_cases hlt : i < l.length
  ·by_cases hp : insP o l[i]
   ·try (conv => whnf)
    repeat' (first
     | (refine Need.mk ?_ ?_; (focus (first | exact len_oD _ | omega | (simp; omega))); conv => whnf)
     | (refine Pick.mk ?_ ?_ ?_; rotate_left; (focus (first | with_reducible exact sl_map0 _ _ _ | with_reducible exact sl_mapN _ _ _ | (refine bnd_id ?_; omega) | exact List.length_map _ | (simp only [List.length_map, List.length_append, List.length_cons, List.length_nil, List.length_replicate, Nat.zero_add]; rfl) | (simp only [chunks]; rfl) | (refine wid ?_ ?_ <;> omega) | exact natlit _ | (refine pick_nat _ _ _ ?_; omega) | (refine SlOf.full ?_; first | (simp; done) | (simp; omega)) | ((fail_if_success (show @Eq (Option _) _ _)); rfl))); conv => whnf)
     | (refine SeqJ.thru ?_; conv => whnf)
     | (refine br_dec (fun _ => ?_) (fun _ => ?_) <;> first | (exfalso; omega) | contradiction | conv => whnf)
     | (refine br_not ?_; conv => whnf)
     | (refine br_bne (fun _ => ?_) (fun _ => ?_) <;> first | (exfalso; omega) | contradiction | conv => whnf)
     | (refine br_beq (fun _ => ?_) (fun _ => ?_) <;> first | (exfalso; omega) | contradiction | conv => whnf))
    all_goals
     first
      | (exfalso; simp only [insP] at hp; omega)
      |skip
       refine Pick.mk (i + 1) ⟨⟨by omega, all_next (by omega) hk hp⟩, by omega⟩ (LeX.of ?_)
       try (conv => whnf)
       repeat (refine Need.mk ?_ ?_; (focus (first | omega | (simp; done))); conv => whnf)
       trivial
   ·have e := insAt_eq (by omega) hk (fun _ => hp)
    try (conv => whnf)
    repeat' (first
     | (refine Need.mk ?_ ?_; (focus (first | exact len_oD _ | omega | (simp; omega))); conv => whnf)
     | (refine Pick.mk ?_ ?_ ?_; rotate_left; (focus (first | with_reducible exact sl_map0 _ _ _ | with_reducible exact sl_mapN _ _ _ | (refine bnd_id ?_; omega) | exact List.length_map _ | (simp only [List.length_map, List.length_append, List.length_cons, List.length_nil, List.length_replicate, Nat.zero_add]; rfl) | (simp only [chunks]; rfl) | (refine wid ?_ ?_ <;> omega) | exact natlit _ | (refine pick_nat _ _ _ ?_; omega) | (refine SlOf.full ?_; first | (simp; done) | (simp; omega)) | ((fail_if_success (show @Eq (Option _) _ _)); rfl))); conv => whnf)
     | (refine SeqJ.thru ?_; conv => whnf)
     | (refine br_dec (fun _ => ?_) (fun _ => ?_) <;> first | (exfalso; omega) | contradiction | conv => whnf)
     | (refine br_not ?_; conv => whnf)
     | (refine br_bne (fun _ => ?_) (fun _ => ?_) <;> first | (exfalso; omega) | contradiction | conv => whnf)
     | (refine br_beq (fun _ => ?_) (fun _ => ?_) <;> first | (exfalso; omega) | contradiction | conv => whnf))
    all_goals
     first
      | (exfalso; simp only [insP] at hp; omega)
      |skip
       refine Out.mk true [] [] ?_
       try (conv => whnf)
       repeat (refine Pick.mk ?_ ?_ ?_; rotate_left; (focus ((refine SlF.same ?_ ?_; (first | rfl | omega | (simp; done) | (simp; omega)); (first | exact fz_self _ _ (fun _ => rfl) | exact fz_pl rfl | (refine Fz.append ?_ ?_ <;> first | exact fz_self _ _ (fun _ => rfl) | exact fz_pl rfl) | (refine Fz.append (Fz.append ?_ ?_) ?_ <;> first | exact fz_self _ _ (fun _ => rfl) | exact fz_pl rfl))))); conv => whnf)
       exact ⟨by simp [insL, e, oD], rfl⟩
  ·have e := insAt_eq (by omega) hk (fun h => absurd h hlt)
   try (conv => whnf)
   repeat' (first
    | (refine Need.mk ?_ ?_; (focus (first | exact len_oD _ | omega | (simp; omega))); conv => whnf)
    | (refine Pick.mk ?_ ?_ ?_; rotate_left; (focus (first | with_reducible exact sl_map0 _ _ _ | with_reducible exact sl_mapN _ _ _ | (refine bnd_id ?_; omega) | exact List.length_map _ | (simp only [List.length_map, List.length_append, List.length_cons, List.length_nil, List.length_replicate, Nat.zero_add]; rfl) | (simp only [chunks]; rfl) | (refine wid ?_ ?_ <;> omega) | exact natlit _ | (refine SlOf.full ?_; first | (simp; done) | (simp; omega)) | ((fail_if_success (show @Eq (Option _) _ _)); rfl))); conv => whnf)
    | (refine SeqJ.thru ?_; conv => whnf)
    | (refine br_dec (fun _ => ?_) (fun _ => ?_) <;> first | (exfalso; omega) | contradiction | conv => whnf)
    | (refine br_not ?_; conv => whnf)
    | (refine br_bne (fun _ => ?_) (fun _ => ?_) <;> first | (exfalso; omega) | contradiction | conv => whnf)
    | (refine br_beq (fun _ => ?_) (fun _ => ?_) <;> first | (exfalso; omega) | contradiction | conv => whnf))
   refine Out.mk true [] [] ?_
   try (conv => whnf)
   repeat (refine Pick.mk ?_ ?_ ?_; rotate_left; (focus ((refine SlF.same ?_ ?_; (first | rfl | omega | (simp; done) | (simp; omega)); (first | exact fz_self _ _ (fun _ => rfl) | exact fz_pl rfl | (refine Fz.append ?_ ?_ <;> first | exact fz_self _ _ (fun _ => rfl) | exact fz_pl rfl) | (refine Fz.append (Fz.append ?_ ?_) ?_ <;> first | exact fz_self _ _ (fun _ => rfl) | exact fz_pl rfl))))); conv => whnf)
   exact ⟨by simp [insL, e, oD], rfl⟩
end Go.Proofs.Ytpdjehnlejjfmaa.D
/- Logs in plain: an operation more; adding one to another, as the reference does. -/
namespace Go.Proofs.Ytpdjehnlejjfmaa.D
open Go.RowKit
set_option maxRecDepth 100000
set_option maxHeartbeats 4000000
set_option linter.unusedVariables false
set_option linter.unusedSimpArgs false

def below (l : List OpV) (a : Int) : Nat := (l.filter fun o => decide (o.actor < a)).length
theorem below_eq {l p q : List OpV} {a : Int} (h : l = p ++ own l a ++ q) (hp : ∀ o ∈ p, o.actor < a) (hq : ∀ o ∈ q, a < o.actor) : below l a = p.length := by
 have hm : ∀ o ∈ own l a, o.actor = a := fun o ho => by simpa using (List.mem_filter.1 ho).2
 generalize hown : own l a = m at h hm
 unfold below
 subst h
 have e1 : m.filter (fun o => decide (o.actor < a)) = [] := List.filter_eq_nil_iff.2 fun o ho => by have := hm o ho; simp; omega
 have e2 : q.filter (fun o => decide (o.actor < a)) = [] := List.filter_eq_nil_iff.2 fun o ho => by have := hq o ho; simp; omega
 rw [List.filter_append, List.filter_append, List.filter_eq_self.2 (fun o ho => by simpa using hp o ho), e1, e2]
 simp
def findL (l : List OpV) (a n : Int) : Int := if 1 ≤ n ∧ n ≤ (own l a).length then below l a + n - 1 else -1
theorem findL_some {l : List OpV} (h : l.Pairwise (fun x y => x.actor ≤ y.actor)) {a n : Int} (h1 : 1 ≤ n) (h2 : n ≤ (own l a).length) :
    findL l a n = below l a + n - 1 ∧ 0 ≤ findL l a n ∧ (findL l a n).toNat < l.length ∧ ∀ hlt : (findL l a n).toNat < l.length, l[(findL l a n).toNat] = (own l a)[(n - 1).toNat]'(by omega) := by
  obtain ⟨p, q, e, hp, hq⟩ := split_own l a h
  have hb := below_eq e hp hq
  have hf : findL l a n = below l a + n - 1 := by rw [findL, if_pos ⟨h1, h2⟩]
  have hL : l.length = p.length + (own l a).length + q.length := by conv => lhs; rw [e]
                                                                    simp only [List.length_append]
  have hn : (findL l a n).toNat = p.length + (n - 1).toNat := by omega
  refine ⟨hf, by omega, by omega, fun hlt => ?_⟩
  have : l[(findL l a n).toNat]? = some ((own l a)[(n - 1).toNat]'(by omega)) := by
    rw [hn]
    conv => lhs; rw [e]
    rw [List.append_assoc, List.getElem?_append_right (by omega), List.getElem?_append_left (by omega), Nat.add_sub_cancel_left, List.getElem?_eq_getElem]
  rw [List.getElem?_eq_getElem hlt] at this
  injection this
theorem s_l08FindN (l : List OpV) (a n : Int) (hs : l.Pairwise (fun x y => x.actor ≤ y.actor)) (hle : l.length ≤ 2 ^ 40) (hn : -2 ^ 60 ≤ n ∧ n ≤ 2 ^ 60) :
    CallD Try.prog id_spec_l08Find [vL l, vI .i64 a, vI .i64 n] [] (vI .i64 (findL l a n)) [] := by
  refine F_spec_l08Find ?_
  obtain ⟨p, q, e, hp, hq⟩ := split_own l a hs
  have hb := below_eq e hp hq
  have hm : ∀ o ∈ own l a, o.actor = a := fun o ho => by simpa using (List.mem_filter.1 ho).2
  have hL : l.length = p.length + (own l a).length + q.length := by conv => lhs; rw [e]
                                                                    simp only [List.length_append]
  have at1 : ∀ i (h : i < p.length), (l[i]'(by omega)).actor < a := fun i h => by
    have : l[i]? = some p[i] := by rw [e, List.append_assoc, List.getElem?_append_left h, List.getElem?_eq_getElem]
    rw [List.getElem?_eq_getElem (by omega)] at this
    injection this with this
    rw [this]; exact hp _ (List.getElem_mem _)
  have at2 : ∀ i (h : p.length ≤ i) (h2 : i < p.length + (own l a).length), (l[i]'(by omega)).actor = a := fun i h h2 => by
    have : l[i]? = some ((own l a)[i - p.length]'(by omega)) := by
      conv => lhs; rw [e]
      rw [List.append_assoc, List.getElem?_append_right h, List.getElem?_append_left (by omega), List.getElem?_eq_getElem]
    rw [List.getElem?_eq_getElem (by omega)] at this
    injection this with this
    rw [this]; exact hm _ (List.getElem_mem _)
  have at3 : ∀ i (h : p.length + (own l a).length ≤ i) (h2 : i < l.length), a < (l[i]'(by omega)).actor := fun i h h2 => by
    have : l[i]? = some (q[i - p.length - (own l a).length]'(by omega)) := by
      conv => lhs; rw [e]
      rw [List.append_assoc, List.getElem?_append_right (by omega), List.getElem?_append_right (by omega), List.getElem?_eq_getElem]
    rw [List.getElem?_eq_getElem (by omega)] at this
    injection this with this
    rw [this]; exact hq _ (List.getElem_mem _)
  try (conv => whnf)
  refine LoopE.mk (fun i : Nat => mk [(0, vL l), (1, vI .i64 a), (2, vI .i64 n), (7, vI .i64 i)] []) (fun i => i ≤ l.length ∧ (0 < (own l a).length → i ≤ p.length)) (fun i => l.length - i) 0 ⟨by omega, fun _ => by omega⟩ (LeX.of ?_) ?_
  · try (conv => whnf)
    repeat (refine Need.mk ?_ ?_; (focus (first | omega | (simp; done))); conv => whnf)
    trivial
  · rintro i ⟨hi, hip⟩
    by_cases hlt : i < l.length
    · have hlt' : i < l.length := hlt
      by_cases hpi : i < p.length
      · have := at1 i hpi
        try (conv => whnf)
        repeat' (first
          | (refine Pick.mk ?_ ?_ ?_; rotate_left; (focus (first | exact List.length_map _ | (refine wid ?_ ?_ <;> omega) | (refine pick_nat _ _ _ ?_; omega))); conv => whnf)
          | (refine SeqJ.thru ?_; conv => whnf)
          | (refine br_dec (fun _ => ?_) (fun _ => ?_) <;> first | (exfalso; omega) | contradiction | conv => whnf)
          | (refine br_not ?_; conv => whnf)
          | (refine br_bne (fun _ => ?_) (fun _ => ?_) <;> first | (exfalso; omega) | contradiction | conv => whnf)
          | (refine br_beq (fun _ => ?_) (fun _ => ?_) <;> first | (exfalso; omega) | contradiction | conv => whnf))
        refine Pick.mk (i + 1) ⟨⟨by omega, fun h => by omega⟩, by omega⟩ (LeX.of ?_)
        try (conv => whnf)
        repeat (refine Need.mk ?_ ?_; (focus (first | omega | (simp; done))); conv => whnf)
        trivial
      · by_cases ho : 0 < (own l a).length
        · have := hip ho
          obtain rfl : i = p.length := by omega
          have h2 := at2 p.length (by omega) (by omega)
          by_cases h3 : 1 ≤ n ∧ n ≤ (own l a).length
          · have h4 := at2 ((p.length : Int) + n - 1).toNat (by omega) (by omega)
            try (conv => whnf)
            repeat' (first
              | (refine Pick.mk ?_ ?_ ?_; rotate_left; (focus (first | exact List.length_map _ | (refine wid ?_ ?_ <;> omega) | (refine pick_nat _ _ _ ?_; omega) | (refine pick_int _ _ _ ?_ ?_ <;> omega))); conv => whnf)
              | (refine SeqJ.thru ?_; conv => whnf)
              | (refine br_dec (fun _ => ?_) (fun _ => ?_) <;> first | (exfalso; omega) | contradiction | conv => whnf)
              | (refine br_not ?_; conv => whnf)
              | (refine br_bne (fun _ => ?_) (fun _ => ?_) <;> first | (exfalso; omega) | contradiction | conv => whnf)
              | (refine br_beq (fun _ => ?_) (fun _ => ?_) <;> first | (exfalso; omega) | contradiction | conv => whnf))
            all_goals
              refine Out.mk true [] [] ?_
              try (conv => whnf)
              exact ⟨by rw [findL, if_pos h3, hb], rfl⟩
          · by_cases h5 : n < 1 ∨ n > l.length - p.length
            · try (conv => whnf)
              repeat' (first
                | (refine Pick.mk ?_ ?_ ?_; rotate_left; (focus (first | exact List.length_map _ | (refine wid ?_ ?_ <;> omega) | (refine pick_nat _ _ _ ?_; omega))); conv => whnf)
                | (refine SeqJ.thru ?_; conv => whnf)
                | (refine br_dec (fun _ => ?_) (fun _ => ?_) <;> first | (exfalso; omega) | contradiction | conv => whnf)
                | (refine br_not ?_; conv => whnf)
                | (refine br_bne (fun _ => ?_) (fun _ => ?_) <;> first | (exfalso; omega) | contradiction | conv => whnf)
                | (refine br_beq (fun _ => ?_) (fun _ => ?_) <;> first | (exfalso; omega) | contradiction | conv => whnf))
              all_goals
                refine Out.mk true [] [] ?_
                try (conv => whnf)
                exact ⟨by rw [findL, if_neg h3], rfl⟩
            · have h4 := at3 ((p.length : Int) + n - 1).toNat (by omega) (by omega)
              try (conv => whnf)
              repeat' (first
                | (refine Pick.mk ?_ ?_ ?_; rotate_left; (focus (first | exact List.length_map _ | (refine wid ?_ ?_ <;> omega) | (refine pick_nat _ _ _ ?_; omega) | (refine pick_int _ _ _ ?_ ?_ <;> omega))); conv => whnf)
                | (refine SeqJ.thru ?_; conv => whnf)
                | (refine br_dec (fun _ => ?_) (fun _ => ?_) <;> first | (exfalso; omega) | contradiction | conv => whnf)
                | (refine br_not ?_; conv => whnf)
                | (refine br_bne (fun _ => ?_) (fun _ => ?_) <;> first | (exfalso; omega) | contradiction | conv => whnf)
                | (refine br_beq (fun _ => ?_) (fun _ => ?_) <;> first | (exfalso; omega) | contradiction | conv => whnf))
              all_goals
                refine Out.mk true [] [] ?_
                try (conv => whnf)
                exact ⟨by rw [findL, if_neg h3], rfl⟩
        · have h2 := at3 i (by omega) hlt
          try (conv => whnf)
          repeat' (first
            | (refine Pick.mk ?_ ?_ ?_; rotate_left; (focus (first | exact List.length_map _ | (refine wid ?_ ?_ <;> omega) | (refine pick_nat _ _ _ ?_; omega))); conv => whnf)
            | (refine SeqJ.thru ?_; conv => whnf)
            | (refine br_dec (fun _ => ?_) (fun _ => ?_) <;> first | (exfalso; omega) | contradiction | conv => whnf)
            | (refine br_not ?_; conv => whnf)
            | (refine br_bne (fun _ => ?_) (fun _ => ?_) <;> first | (exfalso; omega) | contradiction | conv => whnf)
            | (refine br_beq (fun _ => ?_) (fun _ => ?_) <;> first | (exfalso; omega) | contradiction | conv => whnf))
          refine Pick.mk (i + 1) ⟨⟨by omega, fun h => by omega⟩, by omega⟩ (LeX.of ?_)
          try (conv => whnf)
          repeat (refine Need.mk ?_ ?_; (focus (first | omega | (simp; done))); conv => whnf)
          trivial
    · try (conv => whnf)
      repeat' (first
        | (refine Pick.mk ?_ ?_ ?_; rotate_left; (focus (exact List.length_map _)); conv => whnf)
        | (refine SeqJ.thru ?_; conv => whnf)
        | (refine br_dec (fun _ => ?_) (fun _ => ?_) <;> first | (exfalso; omega) | contradiction | conv => whnf)
        | (refine br_not ?_; conv => whnf)
        | (refine br_bne (fun _ => ?_) (fun _ => ?_) <;> first | (exfalso; omega) | contradiction | conv => whnf)
        | (refine br_beq (fun _ => ?_) (fun _ => ?_) <;> first | (exfalso; omega) | contradiction | conv => whnf))
      refine Out.mk true [] [] ?_
      try (conv => whnf)
      exact ⟨by rw [findL, if_neg (by omega)], rfl⟩
theorem own_append (a b : List OpV) (x : Int) : own (a ++ b) x = own a x ++ own b x := by simp [own]
theorem own_cons (o : OpV) (l : List OpV) (x : Int) : own (o :: l) x = (if o.actor = x then [o] else []) ++ own l x := by
 simp only [own, List.filter_cons, decide_eq_true_eq]; split <;> simp
def opLt (x y : OpV) : Prop := x.actor < y.actor ∨ x.actor = y.actor ∧ x.seq < y.seq
theorem Good1.own_at {l : List OpV} (h : Good1 l l.length) : ∀ (a : Int) (i : Nat) (hi : i < (own l a).length), ((own l a)[i]).seq = i + 1 ∧ ((own l a)[i]).actor = a ∧ (own l a)[i] ∈ l := by
 intro a i hi
 have hmem := List.mem_filter.1 (List.getElem_mem hi)
 refine ⟨?_, by simpa using hmem.2, hmem.1⟩
 have key : ∀ (n : Nat), n ≤ l.length → ∀ i (hi : i < (own (l.take n) a).length), ((own (l.take n) a)[i]).seq = i + 1 := by
  intro n
  induction n with
  | zero => intro _ i hi; simp [own] at hi
  | succ n ih =>
   intro hn i hi
   have hlt : n < l.length := by omega
   have e := own_take hlt a
   by_cases ha : l[n].actor = a
   ·rw [if_pos ha] at e
    have hi' : i < (own (l.take n) a).length + 1 := by rw [e] at hi; simpa using hi
    have : (own (l.take (n + 1)) a)[i] = (own (l.take n) a ++ [l[n]])[i]'(by simpa using hi') := by simp only [e]
    rw [this]
    by_cases g : i < (own (l.take n) a).length
    ·rw [List.getElem_append_left g]; exact ih (by omega) i g
    ·rw [List.getElem_append_right (by omega)]
     have h3 := (h.at hlt).2.2
     rw [ha] at h3
     simp only [List.getElem_singleton]
     rw [h3]; omega
   ·rw [if_neg ha, List.append_nil] at e
    have : (own (l.take (n + 1)) a)[i] = (own (l.take n) a)[i]'(by rw [← e]; exact hi) := by simp only [e]
    rw [this]; exact ih (by omega) i _
 have := key l.length (Nat.le_refl _) i (by rwa [List.take_length])
 simpa only [List.take_length] using this
theorem Good1.rise {l : List OpV} (h : Good1 l l.length) : l.Pairwise opLt := by
 rw [List.pairwise_iff_getElem]
 intro i j hi hj hij
 have hs := h.sorted
 rw [List.pairwise_iff_getElem] at hs
 have h1 := hs i j hi hj hij
 rcases Int.lt_or_eq_of_le h1 with g | g
 ·exact .inl g
 ·refine .inr ⟨g, ?_⟩
  have a1 := (h.at hi).2.2
  have a2 := (h.at hj).2.2
  rw [a1, a2, g]
  have : (own (l.take i) l[j].actor).length < (own (l.take j) l[j].actor).length := by
   have e : l.take j = l.take i ++ (l.take j).drop i := by conv => lhs; rw [← List.take_append_drop i (l.take j), List.take_take, Nat.min_eq_left (by omega)]
   rw [e, own_append, List.length_append]
   have e2 : (l.take j).drop i = l[i] :: (l.take j).drop (i + 1) := by
    rw [List.drop_eq_getElem_cons (by simp; omega)]; simp
   rw [e2, own_cons, if_pos g]; simp
  omega
theorem Good1.of {l : List OpV} (h1 : ∀ o ∈ l, OpOk o) (h2 : l.Pairwise opLt) (h3 : ∀ (a : Int) (i : Nat) (hi : i < (own l a).length), ((own l a)[i]).seq = i + 1) : Good1 l l.length := by
 intro j hj _
 refine ⟨h1 _ (List.getElem_mem _), fun h0 => ?_, ?_⟩
 ·rw [List.pairwise_iff_getElem] at h2
  rcases h2 (j - 1) j (by omega) hj (by omega) with g | g <;> omega
 ·have e : l = l.take j ++ l[j] :: l.drop (j + 1) := by rw [← List.drop_eq_getElem_cons hj, List.take_append_drop]
  have e2 : own l l[j].actor = own (l.take j) l[j].actor ++ l[j] :: own (l.drop (j + 1)) l[j].actor := by
   conv => lhs; arg 1; rw [e]
   rw [own_append, own_cons, if_pos rfl]; simp
  have hi : (own (l.take j) l[j].actor).length < (own l l[j].actor).length := by rw [e2]; simp
  have := h3 l[j].actor _ hi
  have e3 : (own l l[j].actor)[(own (l.take j) l[j].actor).length] = l[j] := by
   have : (own l l[j].actor)[(own (l.take j) l[j].actor).length]? = some l[j] := by rw [e2]; simp
   rw [List.getElem?_eq_getElem hi] at this; injection this
  rw [e3] at this; exact this
theorem insAt_take {l : List OpV} {o : OpV} : (∀ x ∈ l.take (insAt l o), insP o x) ∧ ∀ h : insAt l o < l.length, ¬ insP o l[insAt l o] := by
 have e : l.take (insAt l o) = l.takeWhile fun x => decide (insP o x) := by
  unfold insAt
  conv => lhs; rw [← List.takeWhile_append_dropWhile (p := fun x => decide (insP o x)) (l := l)]
  rw [List.takeWhile_append_dropWhile]
  have := List.takeWhile_append_dropWhile (p := fun x => decide (insP o x)) (l := l)
  conv => lhs; arg 2; rw [← this]
  rw [List.take_left]
 constructor
 ·intro x hx
  rw [e] at hx
  exact of_decide_eq_true (List.all_eq_true.1 List.all_takeWhile x hx)
 ·intro h hp
  have h1 : l.dropWhile (fun x => decide (insP o x)) = l.drop (insAt l o) := by
   have := List.takeWhile_append_dropWhile (p := fun x => decide (insP o x)) (l := l)
   have h2 : l.drop (insAt l o) = (l.takeWhile (fun x => decide (insP o x)) ++ l.dropWhile (fun x => decide (insP o x))).drop (insAt l o) := by rw [this]
   rw [h2]; unfold insAt; rw [List.drop_left]
  rw [List.drop_eq_getElem_cons h] at h1
  have := List.head?_dropWhile_not (fun x => decide (insP o x)) l
  rw [h1] at this
  simp [List.getElem?_eq_getElem h] at this
  exact this hp
theorem insL_rise {l : List OpV} {o : OpV} (h : l.Pairwise opLt) (hn : ∀ x ∈ l, ¬ (x.actor = o.actor ∧ x.seq = o.seq)) : (insL l o).Pairwise opLt := by
 obtain ⟨g1, g2⟩ := insAt_take (l := l) (o := o)
 have e : l.take (insAt l o) ++ l.drop (insAt l o) = l := List.take_append_drop ..
 have hp := h; rw [← e, List.pairwise_append] at hp
 obtain ⟨p1, p2, p3⟩ := hp
 have after : ∀ y ∈ l.drop (insAt l o), opLt o y := by
  intro y hy
  have hlt : insAt l o < l.length := by
   rcases Nat.lt_or_ge (insAt l o) l.length with g | g
   ·exact g
   ·rw [List.drop_eq_nil_of_le g] at hy; simp at hy
  have h0 := g2 hlt
  have hx := hn l[insAt l o] (List.getElem_mem _)
  have h3 : opLt o l[insAt l o] := by unfold insP at h0; unfold opLt; omega
  rw [List.drop_eq_getElem_cons hlt] at hy p2
  rcases List.mem_cons.1 hy with rfl | hy
  ·exact h3
  ·have := (List.pairwise_cons.1 p2).1 y hy
   unfold opLt at *; omega
 unfold insL
 rw [List.append_assoc, List.pairwise_append]
 refine ⟨p1, ?_, fun x hx y hy => ?_⟩
 ·rw [List.singleton_append, List.pairwise_cons]
  exact ⟨after, p2⟩
 ·rw [List.singleton_append] at hy
  rcases List.mem_cons.1 hy with rfl | hy
  ·exact g1 x hx
  ·exact p3 x hx y hy
theorem insL_own {l : List OpV} {o : OpV} (h : l.Pairwise opLt) (hn : ∀ x ∈ l, x.actor = o.actor → x.seq < o.seq) (a : Int) : own (insL l o) a = own l a ++ if o.actor = a then [o] else [] := by
 obtain ⟨g1, g2⟩ := insAt_take (l := l) (o := o)
 have e : l.take (insAt l o) ++ l.drop (insAt l o) = l := List.take_append_drop ..
 unfold insL
 rw [own_append, own_append, own_cons]
 conv => rhs; rw [← e, own_append]
 simp only [own, List.filter_nil, List.append_nil]
 by_cases ha : o.actor = a
 ·rw [if_pos ha]
  have : (l.drop (insAt l o)).filter (fun o => decide (o.actor = a)) = [] := by
   rw [List.filter_eq_nil_iff]
   intro y hy
   have hlt : insAt l o < l.length := by
    rcases Nat.lt_or_ge (insAt l o) l.length with g | g
    ·exact g
    ·rw [List.drop_eq_nil_of_le g] at hy; simp at hy
   have h0 := g2 hlt
   have h4 := hn _ (List.getElem_mem hlt)
   have p2 := h.sublist (List.drop_sublist (insAt l o) l)
   have h5 : o.actor < l[insAt l o].actor := by unfold insP at h0; omega
   rw [List.drop_eq_getElem_cons hlt] at hy p2
   rcases List.mem_cons.1 hy with rfl | hy
   ·simp; omega
   ·have := (List.pairwise_cons.1 p2).1 y hy
    unfold opLt at this; simp; omega
  rw [this]; simp
 ·rw [if_neg ha]; simp
end Go.Proofs.Ytpdjehnlejjfmaa.D
/- The reference's telling whether a log is in order: the whole. -/
namespace Go.Proofs.Ytpdjehnlejjfmaa.D
open Go.RowKit
set_option maxRecDepth 100000
set_option maxHeartbeats 4000000
set_option linter.unusedVariables false
set_option linter.unusedSimpArgs false

theorem s_LogOK (l : List OpV) (hw : ∀ o ∈ l, o.key.length ≤ 2 ^ 40 ∧ o.text.length ≤ 2 ^ 40) : CallD Try.prog id_spec_LogOK [vL l] [] (vB (decide (LogOk l))) [] := by
 refine F_spec_LogOK ?_
 try (conv => whnf)
 repeat' (first
  | (refine Pick.mk ?_ ?_ ?_; rotate_left; (focus (exact List.length_map _)); conv => whnf)
  | (refine SeqJ.thru ?_; conv => whnf)
  | (refine br_dec (fun _ => ?_) (fun _ => ?_) <;> first | (exfalso; omega) | contradiction | conv => whnf)
  | (refine br_not ?_; conv => whnf)
  | (refine br_bne (fun _ => ?_) (fun _ => ?_) <;> first | (exfalso; omega) | contradiction | conv => whnf)
  | (refine br_beq (fun _ => ?_) (fun _ => ?_) <;> first | (exfalso; omega) | contradiction | conv => whnf))
 ·rename_i hlen
  refine Out.mk true [] [] ?_
  try (conv => whnf)
  exact ⟨dec_f fun h => by have := h.len; omega, rfl⟩
 ·rename_i hlen
  refine LoopE.mk (fun i : Nat => mk [(0, vL l), (3, vI .i64 i)] []) (fun i => i ≤ l.length ∧ Good1 l i) (fun i => l.length - i) 0 ⟨by omega, Good1.zero l⟩ (LeX.of ?_) ?_
  ·try (conv => whnf)
   repeat (refine Need.mk ?_ ?_; (focus (first | omega | (simp; done))); conv => whnf)
   trivial
  ·rintro i ⟨hi, hg⟩
   by_cases hlt : i < l.length
   ·obtain ⟨hk, ht⟩ := hw _ (List.getElem_mem hlt)
    by_cases hok : OpOk l[i]
    ·obtain ⟨a0, a1⟩ := hok.st.2
     obtain ⟨q0, q1⟩ := hok.seq
     by_cases h0 : i = 0
     ·try (conv => whnf)
      repeat' (first
       | (refine Pick.mk ?_ ?_ ?_; rotate_left; (focus (first | exact List.length_map _ | (refine pick_nat _ _ _ ?_; omega))); conv => whnf)
       | (refine SeqJ.thru ?_; conv => whnf)
       | (refine br_dec (fun _ => ?_) (fun _ => ?_) <;> first | (exfalso; omega) | contradiction | conv => whnf)
       | (refine br_not ?_; conv => whnf)
       | (refine br_bne (fun _ => ?_) (fun _ => ?_) <;> first | (exfalso; omega) | contradiction | conv => whnf)
       | (refine br_beq (fun _ => ?_) (fun _ => ?_) <;> first | (exfalso; omega) | contradiction | conv => whnf))
      refine Hand.mk [] ?_
      try (conv => whnf)
      refine CallW.d (s_l08OpOK l[i] hk ht) ?_
      try (conv => whnf)
      try (conv => whnf)
      repeat' (first
       | (refine Pick.mk ?_ ?_ ?_; rotate_left; (focus (first | (refine wid ?_ ?_ <;> omega) | (refine pick_nat _ _ _ ?_; omega))); conv => whnf)
       | (refine br_dec (fun _ => ?_) (fun _ => ?_) <;> first | (exfalso; omega) | contradiction | conv => whnf)
       | (refine br_not ?_; conv => whnf)
       | (refine br_bne (fun _ => ?_) (fun _ => ?_) <;> first | (exfalso; omega) | contradiction | conv => whnf)
       | (refine br_beq (fun _ => ?_) (fun _ => ?_) <;> first | (exfalso; omega) | contradiction | conv => whnf))
      all_goals
       first
        |skip
         have hst := (seqStep hlt hg).2 (by omega)
         refine Pick.mk (i + 1) ⟨⟨by omega, Good1.step hlt hg hok hst.1 hst.2⟩, by omega⟩ (LeX.of ?_)
         try (conv => whnf)
         repeat (refine Need.mk ?_ ?_; (focus (first | omega | (simp; done))); conv => whnf)
         trivial
        |skip
         refine Out.mk true [] [] ?_
         try (conv => whnf)
         exact ⟨dec_f fun h => by have := (seqStep hlt hg).1 ⟨(h.good.at hlt).2.1, (h.good.at hlt).2.2⟩; omega, rfl⟩
     ·have hp := (hg (i - 1) (by omega) (by omega)).1
      obtain ⟨b0, b1⟩ := hp.st.2
      obtain ⟨r0, r1⟩ := hp.seq
      have ep : ((i : Int) - 1).toNat = i - 1 := by omega
      have ha : (l[((i : Int) - 1).toNat]'(by omega)).actor = (l[i - 1]'(by omega)).actor := by simp only [ep]
      have hs : (l[((i : Int) - 1).toNat]'(by omega)).seq = (l[i - 1]'(by omega)).seq := by simp only [ep]
      try (conv => whnf)
      repeat' (first
       | (refine Pick.mk ?_ ?_ ?_; rotate_left; (focus (first | exact List.length_map _ | (refine pick_nat _ _ _ ?_; omega))); conv => whnf)
       | (refine SeqJ.thru ?_; conv => whnf)
       | (refine br_dec (fun _ => ?_) (fun _ => ?_) <;> first | (exfalso; omega) | contradiction | conv => whnf)
       | (refine br_not ?_; conv => whnf)
       | (refine br_bne (fun _ => ?_) (fun _ => ?_) <;> first | (exfalso; omega) | contradiction | conv => whnf)
       | (refine br_beq (fun _ => ?_) (fun _ => ?_) <;> first | (exfalso; omega) | contradiction | conv => whnf))
      refine Hand.mk [] ?_
      try (conv => whnf)
      refine CallW.d (s_l08OpOK l[i] hk ht) ?_
      try (conv => whnf)
      try (conv => whnf)
      repeat' (first
       | (refine Pick.mk ?_ ?_ ?_; rotate_left; (focus (first | (refine wid ?_ ?_ <;> omega) | (refine pick_nat _ _ _ ?_; omega) | (refine pick_int _ _ _ ?_ ?_ <;> omega))); conv => whnf)
       | (refine br_dec (fun _ => ?_) (fun _ => ?_) <;> first | (exfalso; omega) | contradiction | conv => whnf)
       | (refine br_not ?_; conv => whnf)
       | (refine br_bne (fun _ => ?_) (fun _ => ?_) <;> first | (exfalso; omega) | contradiction | conv => whnf)
       | (refine br_beq (fun _ => ?_) (fun _ => ?_) <;> first | (exfalso; omega) | contradiction | conv => whnf))
      all_goals
       first
        |skip
         have hst := (seqStep hlt hg).2 (by omega)
         refine Pick.mk (i + 1) ⟨⟨by omega, Good1.step hlt hg hok hst.1 hst.2⟩, by omega⟩ (LeX.of ?_)
         try (conv => whnf)
         repeat (refine Need.mk ?_ ?_; (focus (first | omega | (simp; done))); conv => whnf)
         trivial
        |skip
         refine Out.mk true [] [] ?_
         try (conv => whnf)
         exact ⟨dec_f fun h => by have := (seqStep hlt hg).1 ⟨(h.good.at hlt).2.1, (h.good.at hlt).2.2⟩; omega, rfl⟩
    ·try (conv => whnf)
     repeat' (first
      | (refine Pick.mk ?_ ?_ ?_; rotate_left; (focus (first | exact List.length_map _ | (refine pick_nat _ _ _ ?_; omega))); conv => whnf)
      | (refine SeqJ.thru ?_; conv => whnf)
      | (refine br_dec (fun _ => ?_) (fun _ => ?_) <;> first | (exfalso; omega) | contradiction | conv => whnf)
      | (refine br_not ?_; conv => whnf)
      | (refine br_bne (fun _ => ?_) (fun _ => ?_) <;> first | (exfalso; omega) | contradiction | conv => whnf)
      | (refine br_beq (fun _ => ?_) (fun _ => ?_) <;> first | (exfalso; omega) | contradiction | conv => whnf))
     refine Hand.mk [] ?_
     try (conv => whnf)
     refine CallW.d (s_l08OpOK l[i] hk ht) ?_
     try (conv => whnf)
     try (conv => whnf)
     repeat' (first
      | (refine br_dec (fun _ => ?_) (fun _ => ?_) <;> first | (exfalso; omega) | contradiction | conv => whnf)
      | (refine br_not ?_; conv => whnf)
      | (refine br_bne (fun _ => ?_) (fun _ => ?_) <;> first | (exfalso; omega) | contradiction | conv => whnf)
      | (refine br_beq (fun _ => ?_) (fun _ => ?_) <;> first | (exfalso; omega) | contradiction | conv => whnf))
     refine Out.mk true [] [] ?_
     try (conv => whnf)
     exact ⟨dec_f fun h => hok (h.good.at hlt).1, rfl⟩
   ·have hgl : Good1 l l.length := by
     have e9 : i = l.length := by omega
     rwa [e9] at hg
    try (conv => whnf)
    repeat' (first
     | (refine Pick.mk ?_ ?_ ?_; rotate_left; (focus (exact List.length_map _)); conv => whnf)
     | (refine SeqJ.thru ?_; conv => whnf)
     | (refine br_dec (fun _ => ?_) (fun _ => ?_) <;> first | (exfalso; omega) | contradiction | conv => whnf)
     | (refine br_not ?_; conv => whnf)
     | (refine br_bne (fun _ => ?_) (fun _ => ?_) <;> first | (exfalso; omega) | contradiction | conv => whnf)
     | (refine br_beq (fun _ => ?_) (fun _ => ?_) <;> first | (exfalso; omega) | contradiction | conv => whnf))
    refine Hand.mk [] ?_
    try (conv => whnf)
    refine CallW.d (s_l08Counts l (fun o ho => (hgl.all o ho).st.2) (by omega)) ?_
    try (conv => whnf)
    repeat (first
     | (refine Need.mk ?_ ?_; (focus (omega)); conv => whnf)
     | (refine Pick.mk ?_ ?_ ?_; rotate_left; (focus (first | (simp only [List.length_map, List.length_append, List.length_cons, List.length_nil, List.length_replicate, Nat.zero_add]; rfl) | exact natlit _)); conv => whnf))
    refine LoopE.mk (fun i : Nat => mk [(0, vL l), (7, vI .i64 i), (5, .one (.ptr 49184 0)), (6, .one (.os (.v 53248) 1 0 101))] [(49184, .box [.os (.v 49168) 1 0 16]), (49168, .own 1 ((cnts l).map inD)), (53248, .own 1 ((kdOf thS (l.take i)).map inD))])
     (fun i => i ≤ l.length ∧ SameTh thS (l.take i) ∧ ∀ o ∈ l.take i, Cause l o) (fun i => l.length - i) 0 ⟨by omega, fun a ha => by simp at ha, by simp⟩ (LeX.of ?_) ?_
    ·try (conv => whnf)
     repeat (refine Need.mk ?_ ?_; (focus (first | omega | (simp; done) | rfl)); conv => whnf)
     trivial
    ·rintro i ⟨hi, hs, hc⟩
     by_cases hlt : i < l.length
     ·have hok := (hgl.at hlt).1
      have hob := hok.obj
      have hcl := cnts_length l
      have hkl := kdOf_length thS (l.take i)
      have e5 : (kdOf thS (l.take i)).getD l[i].obj.toNat 0 = (kdOf thS (l.take i))[l[i].obj.toNat] := by simp [List.getD, show l[i].obj.toNat < 101 by omega]
      have hki := kd_iff (fun k => thS_ne) (fun o ho => hgl.all o (List.mem_of_mem_take ho)) hs hok
      rw [e5] at hki
      by_cases hca : Cause l l[i]
      ·try (conv => whnf)
       repeat' (first
        | (refine Pick.mk ?_ ?_ ?_; rotate_left; (focus (first | exact List.length_map _ | (refine pick_nat _ _ _ ?_; omega))); conv => whnf)
        | (refine SeqJ.thru ?_; conv => whnf)
        | (refine br_dec (fun _ => ?_) (fun _ => ?_) <;> first | (exfalso; omega) | contradiction | conv => whnf)
        | (refine br_not ?_; conv => whnf)
        | (refine br_bne (fun _ => ?_) (fun _ => ?_) <;> first | (exfalso; omega) | contradiction | conv => whnf)
        | (refine br_beq (fun _ => ?_) (fun _ => ?_) <;> first | (exfalso; omega) | contradiction | conv => whnf))
       refine Hand.mk [] ?_
       try (conv => whnf)
       repeat (refine Pick.mk ?_ ?_ ?_; rotate_left; (focus ((refine SlF.self _ _ ?_ ?_; (first | rfl | omega | (simp; done) | (simp; omega)); (exact fun _ => rfl)))); conv => whnf)
       refine CallW.d (s_l08Causes l l[i] hgl hok (by omega)) ?_
       try (conv => whnf)
       try (conv => whnf)
       repeat' (first
        | (refine Pick.mk ?_ ?_ ?_; rotate_left; (focus ((refine pick_nat _ _ _ ?_; omega))); conv => whnf)
        | (refine br_dec (fun _ => ?_) (fun _ => ?_) <;> first | (exfalso; omega) | contradiction | conv => whnf)
        | (refine br_not ?_; conv => whnf)
        | (refine br_bne (fun _ => ?_) (fun _ => ?_) <;> first | (exfalso; omega) | contradiction | conv => whnf)
        | (refine br_beq (fun _ => ?_) (fun _ => ?_) <;> first | (exfalso; omega) | contradiction | conv => whnf))
       refine Hand.mk [] ?_
       try (conv => whnf)
       refine CallW.d (s_l08Thing l[i].kind) ?_
       try (conv => whnf)
       repeat (first
        | (refine Need.mk ?_ ?_; (focus (omega)); conv => whnf)
        | (refine Pick.mk ?_ ?_ ?_; rotate_left; (focus (first | (with_reducible refine get_mapI _ _ _ ?_ ?_ <;> first | omega | (simp; omega)) | (refine pick_nat _ _ _ ?_; omega))); conv => whnf)
        | (refine SeqJ.thru ?_; conv => whnf))
       try (conv => whnf)
       repeat' (first
        | (refine Need.mk ?_ ?_; (focus (first | omega | (simp only [List.length_map, List.length_append, List.length_cons, List.length_nil, List.length_replicate]; omega))); conv => whnf)
        | (refine Pick.mk ?_ ?_ ?_; rotate_left; (focus (first | with_reducible exact set_inI _ _ _ _ | (with_reducible refine get_mapI _ _ _ ?_ ?_ <;> first | omega | (simp; omega)) | (refine wid ?_ ?_ <;> omega) | (refine pick_nat _ _ _ ?_; omega))); conv => whnf)
        | (refine br_dec (fun _ => ?_) (fun _ => ?_) <;> first | (exfalso; omega) | contradiction | conv => whnf)
        | (refine br_not ?_; conv => whnf)
        | (refine br_bne (fun _ => ?_) (fun _ => ?_) <;> first | (exfalso; omega) | contradiction | conv => whnf)
        | (refine br_beq (fun _ => ?_) (fun _ => ?_) <;> first | (exfalso; omega) | contradiction | conv => whnf))
       ·have hsm := hki.1 (by omega)
        refine Pick.mk (i + 1) ⟨⟨by omega, by rw [List.take_succ_eq_append_getElem hlt]; exact hs.snoc hsm, all_next hlt hc hca⟩, by omega⟩ (LeX.of ?_)
        try (conv => whnf)
        repeat (refine Need.mk ?_ ?_; (focus (first | omega | (simp; done))); conv => whnf)
        refine Need.mk (by rw [List.take_succ_eq_append_getElem hlt, kdOf_snoc]) ?_
        try (conv => whnf)
        trivial
       ·have hsm := hki.1 (by omega)
        refine Pick.mk (i + 1) ⟨⟨by omega, by rw [List.take_succ_eq_append_getElem hlt]; exact hs.snoc hsm, all_next hlt hc hca⟩, by omega⟩ (LeX.of ?_)
        try (conv => whnf)
        repeat (refine Need.mk ?_ ?_; (focus (first | omega | (simp; done))); conv => whnf)
        refine Need.mk (by rw [List.take_succ_eq_append_getElem hlt, kdOf_snoc]) ?_
        try (conv => whnf)
        trivial
       ·refine Out.mk true [] [] ?_
        try (conv => whnf)
        exact ⟨dec_f fun h => by
         have := hki.2 (SameTh.of_snoc (((SameTh.iff hgl.all).1 h.same).sub (m := l.take i ++ [l[i]]) (fun o ho => by rw [← List.take_succ_eq_append_getElem hlt] at ho; exact List.mem_of_mem_take ho)))
         omega, rfl⟩
      ·try (conv => whnf)
       repeat' (first
        | (refine Pick.mk ?_ ?_ ?_; rotate_left; (focus (first | exact List.length_map _ | (refine pick_nat _ _ _ ?_; omega))); conv => whnf)
        | (refine SeqJ.thru ?_; conv => whnf)
        | (refine br_dec (fun _ => ?_) (fun _ => ?_) <;> first | (exfalso; omega) | contradiction | conv => whnf)
        | (refine br_not ?_; conv => whnf)
        | (refine br_bne (fun _ => ?_) (fun _ => ?_) <;> first | (exfalso; omega) | contradiction | conv => whnf)
        | (refine br_beq (fun _ => ?_) (fun _ => ?_) <;> first | (exfalso; omega) | contradiction | conv => whnf))
       refine Hand.mk [] ?_
       try (conv => whnf)
       repeat (refine Pick.mk ?_ ?_ ?_; rotate_left; (focus ((refine SlF.self _ _ ?_ ?_; (first | rfl | omega | (simp; done) | (simp; omega)); (exact fun _ => rfl)))); conv => whnf)
       refine CallW.d (s_l08Causes l l[i] hgl hok (by omega)) ?_
       try (conv => whnf)
       try (conv => whnf)
       repeat' (first
        | (refine br_dec (fun _ => ?_) (fun _ => ?_) <;> first | (exfalso; omega) | contradiction | conv => whnf)
        | (refine br_not ?_; conv => whnf)
        | (refine br_bne (fun _ => ?_) (fun _ => ?_) <;> first | (exfalso; omega) | contradiction | conv => whnf)
        | (refine br_beq (fun _ => ?_) (fun _ => ?_) <;> first | (exfalso; omega) | contradiction | conv => whnf))
       refine Out.mk true [] [] ?_
       try (conv => whnf)
       exact ⟨dec_f fun h => hca (h.cause _ (List.getElem_mem hlt)), rfl⟩
     ·try (conv => whnf)
      repeat' (first
       | (refine Pick.mk ?_ ?_ ?_; rotate_left; (focus (exact List.length_map _)); conv => whnf)
       | (refine SeqJ.thru ?_; conv => whnf)
       | (refine br_dec (fun _ => ?_) (fun _ => ?_) <;> first | (exfalso; omega) | contradiction | conv => whnf)
       | (refine br_not ?_; conv => whnf)
       | (refine br_bne (fun _ => ?_) (fun _ => ?_) <;> first | (exfalso; omega) | contradiction | conv => whnf)
       | (refine br_beq (fun _ => ?_) (fun _ => ?_) <;> first | (exfalso; omega) | contradiction | conv => whnf))
      refine Out.mk true [] [] ?_
      try (conv => whnf)
      rw [List.take_of_length_le (by omega)] at hs hc
      exact ⟨dec_t ⟨by omega, hgl, (SameTh.iff hgl.all).2 hs, hc⟩, rfl⟩
end Go.Proofs.Ytpdjehnlejjfmaa.D
