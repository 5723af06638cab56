/- A log taken apart by the program. -/
import Derived.Test.YtpdjehnlejjfmaaJ8
set_option linter.unusedVariables false
set_option linter.unusedSimpArgs false
namespace Go.Proofs.Ytpdjehnlejjfmaa.D
open Go.RowKit
set_option maxRecDepth 100000
set_option maxHeartbeats 4000000
set_option linter.unusedVariables false
set_option linter.unusedSimpArgs false

abbrev vBook : SV := .tup [(false, [.ep (.v 0) 120 0 0]), (false, [cB true])]
abbrev vNoBook : SV := .tup [(false, [.dv (.sc (.pointer none))]), (false, [cB false])]
def ReadPost (l : List OpV) (res : SV) (Lo : List Row) : Prop := (LogOk l ∧ res = vBook ∧ Lo = [.own 120 [bookD (bookOf l)]]) ∨ (¬ LogOk l ∧ res = vNoBook ∧ Lo = [])
theorem bookOf_own {l : List OpV} (h : ∀ o ∈ l, OpOk o) {a : Int} (ha : actOk a) : (bookOf l).of.getD a.toNat [] = own l a := by
 obtain ⟨a0, a1⟩ := ha
 rw [book_of (by omega) l h, show ((a.toNat : Nat) : Int) = a by omega]
theorem i_readBook (l : List OpV) (hw : ∀ o ∈ l, o.key.length ≤ 2 ^ 40 ∧ o.text.length ≤ 2 ^ 40) : CallM Try.prog id_impl_readBook [vL l] [] [] false (ReadPost l) := by
 refine F_impl_readBook ?_
 try (conv => whnf)
 repeat' (first
  | (refine Pick.mk ?_ ?_ ?_; rotate_left; (focus (exact List.length_map _)); conv => whnf)
  | (refine SeqJ.thru ?_; conv => whnf)
  | (refine br_dec (fun _ => ?_) (fun _ => ?_) <;> first | (exfalso; omega) | contradiction | conv => whnf)
  | (refine br_not ?_; conv => whnf)
  | (refine br_bne (fun _ => ?_) (fun _ => ?_) <;> first | (exfalso; omega) | contradiction | conv => whnf)
  | (refine br_beq (fun _ => ?_) (fun _ => ?_) <;> first | (exfalso; omega) | contradiction | conv => whnf))
 ·rename_i hlen
  refine Out.mk false [0, 1, 2, 3, 4] [] ?_
  try (conv => whnf)
  exact ⟨.inr ⟨fun h => by have := h.len; omega, rfl, rfl⟩⟩
 ·rename_i hlen
  refine LoopE.mk (fun i : Nat => mk [(0, vL l), (16, vL l), (17, vI .i64 l.length), (18, vI .i64 i), (4, .one (.ep (.v 16400) 120 0 0))] [(16400, .own 120 [bookD (bookOf (l.take i))])])
   (fun i => i ≤ l.length ∧ Good1 l i ∧ SameTh thI (l.take i)) (fun i => l.length - i) 0 ⟨by omega, Good1.zero l, fun a ha => by simp at ha⟩ (LeX.of ?_) ?_
  ·try (conv => whnf)
   repeat (refine Need.mk ?_ ?_; (focus (first | omega | (simp; done) | rfl)); conv => whnf)
   trivial
  ·rintro i ⟨hi, hg, hs⟩
   try (conv => whnf)
   repeat' (first
    | (refine Pick.mk ?_ ?_ ?_; rotate_left; (focus (first | exact List.length_map _ | (refine pick_nat _ _ _ ?_; omega))); conv => whnf)
    | (refine SeqJ.thru ?_; conv => whnf)
    | (refine br_dec (fun _ => ?_) (fun _ => ?_) <;> first | (exfalso; omega) | contradiction | conv => whnf)
    | (refine br_not ?_; conv => whnf)
    | (refine br_bne (fun _ => ?_) (fun _ => ?_) <;> first | (exfalso; omega) | contradiction | conv => whnf)
    | (refine br_beq (fun _ => ?_) (fun _ => ?_) <;> first | (exfalso; omega) | contradiction | conv => whnf))
   ·have hlt : i < l.length := by omega
    obtain ⟨hk, ht⟩ := hw _ (List.getElem_mem hlt)
    by_cases hok : OpOk l[i]
    ·obtain ⟨a0, a1⟩ := hok.st.2
     have hob := hok.obj
     have e1 := bookOf_own hg.ok ⟨a0, a1⟩
     have e2 : ((bookOf (l.take i)).of.getD l[i].actor.toNat []).length ≤ 1024 := by
      rw [e1]; exact Nat.le_trans (own_le _ _) (by simp; omega)
     have wf := bookOf_wf (l.take i)
     have ep : ((i : Int) - 1).toNat = i - 1 := by omega
     refine Hand.mk [] ?_
     try (conv => whnf)
     refine CallW.d (i_opOK l[i] hk ht) ?_
     try (conv => whnf)
     try (conv => whnf)
     repeat' (first
      | (refine Need.mk ?_ ?_; (focus (first | omega | ((conv => whnf); (repeat (first | (refine Need.mk (by first | rfl | omega | (simp; done)) ?_; conv => whnf) | (refine Pick.mk ?_ ?_ ?_; rotate_left; (focus (first | with_reducible exact xor_u8 _ _ | (with_reducible refine xor_i64 ?_ ?_; all_goals omega) | (with_reducible refine xor_u32 ?_ ?_; all_goals omega) | (refine bk_top ?_; assumption) | (with_reducible refine bk_size ?_; assumption) | (with_reducible refine bk_kd ?_ ?_ <;> first | assumption | omega) | (with_reducible refine bk_of ?_ ?_ <;> first | assumption | omega) | assumption | with_reducible exact set_byN _ _ _ _ | with_reducible exact set_byI _ _ _ _ | with_reducible exact set_inN _ _ _ _ | with_reducible exact set_inI _ _ _ _ | with_reducible exact set_stN _ _ _ _ | with_reducible exact set_tsN _ _ _ _ | with_reducible exact set_tsI _ _ _ _ | with_reducible exact set_boN _ _ _ _ | with_reducible exact set_boI _ _ _ _ | (with_reducible refine get_mapN _ _ _ ?_; first | omega | (simp; omega)) | (with_reducible refine get_mapI _ _ _ ?_ ?_ <;> first | omega | (simp; omega)) | exact bs_beq _ _ | exact bs_less _ _ | exact bs_leq _ _ | with_reducible exact bs_app _ _ | (refine bs_get _ _ ?_; omega) | (refine bs_int _ _ ?_ ?_ <;> omega) | with_reducible exact sl_map0 _ _ _ | with_reducible exact sl_mapN _ _ _ | with_reducible exact sl_map _ _ _ _ | exact bs_extract0 _ _ | exact bs_extractN _ _ | exact bs_extract _ _ _ | (refine bnd_id ?_; omega) | (refine bnd_sub ?_ ?_ <;> omega) | (refine bnd_add ?_; omega) | (refine bnd_subN ?_ ?_ <;> omega) | (refine bnd_int ?_ ?_ <;> omega) | ((show @Eq Nat (_ + Int.toNat _ * _) _); simp only [Int.toNat_natCast, Nat.zero_add, Nat.mul_one]; rfl) | ((show @Eq (List _) (List.set [_] _ _) _); simp only [List.set_cons_zero]; rfl) | exact List.length_map _ | exact size_bs _ | (simp only [List.length_map, List.length_append, List.length_cons, List.length_nil, List.length_replicate, Nat.zero_add]; rfl) | with_reducible exact List.nil_append _ | with_reducible exact map_app _ _ _ | exact map_snoc byD _ _ | exact map_snoc inD _ _ | exact map_snoc stD _ _ | exact map_snoc tsD _ _ | (simp only [chunks]; rfl) | (refine wid ?_ ?_ <;> omega) | exact wby _ | with_reducible exact wby32 _ | with_reducible exact wu32 _ | exact wby64 _ | exact shr8 _ | exact shr16 _ | exact shr24 _ | exact shr32 _ | (refine tmodn ?_; omega) | (refine wdiv ?_ ?_ ?_ <;> omega) | exact wbyte _ | exact natlit _ | exact rep_by _ | exact rep_in _ | exact rep_bo _ | exact rep_st _ | (refine pick_nat _ _ _ ?_; omega) | (refine pick_int _ _ _ ?_ ?_ <;> omega) | (refine SlOf.full ?_; first | (simp; done) | (simp; omega)) | (with_reducible refine SlOf.pre _ _ ?_; first | omega | (simp; omega)) | (refine SlF.self _ _ ?_ ?_; (first | rfl | omega | (simp; done) | (simp; omega)); (exact fun _ => rfl)) | (refine SlF.pre _ _ ?_ ?_; (first | omega | (simp; omega)); (exact fun _ => rfl)) | (refine SlF.same ?_ ?_; (first | rfl | omega | (simp; done) | (simp; omega)); (first | exact fz_self _ _ (fun _ => rfl) | exact fz_pl rfl | (refine Fz.append ?_ ?_ <;> first | exact fz_self _ _ (fun _ => rfl) | exact fz_pl rfl) | (refine Fz.append (Fz.append ?_ ?_) ?_ <;> first | exact fz_self _ _ (fun _ => rfl) | exact fz_pl rfl))) | (simp only [Int.toNat_natCast, Nat.zero_add, Nat.mul_one]; rfl) | ((show @Eq (Option CV) _ _); rfl) | ((fail_if_success (show @Eq (Option _) _ _)); rfl) | ((show @Eq (Option _) _ _); simp only [List.getElem?_cons_zero, List.getElem?_cons_succ]; done) | ((show @Eq (Option _) _ _); simp only [List.getElem?_cons_zero, List.getElem?_cons_succ]; rfl) | with_reducible rfl)); conv => whnf))); exact Done.mk trivial))); conv => whnf)
      | (refine Pick.mk ?_ ?_ ?_; rotate_left; (focus (first | (with_reducible refine bk_kd ?_ ?_ <;> first | assumption | omega) | (with_reducible refine bk_of ?_ ?_ <;> first | assumption | omega) | ((show @Eq Nat (_ + Int.toNat _ * _) _); simp only [Int.toNat_natCast, Nat.zero_add, Nat.mul_one]; rfl) | (refine wid ?_ ?_ <;> omega) | (refine pick_int _ _ _ ?_ ?_ <;> omega) | ((show @Eq (Option _) _ _); simp only [List.getElem?_cons_zero, List.getElem?_cons_succ]; rfl))); conv => whnf)
      | (refine SeqJ.thru ?_; conv => whnf)
      | (refine br_dec (fun _ => ?_) (fun _ => ?_) <;> first | (exfalso; omega) | contradiction | conv => whnf)
      | (refine br_not ?_; conv => whnf)
      | (refine br_bne (fun _ => ?_) (fun _ => ?_) <;> first | (exfalso; omega) | contradiction | conv => whnf)
      | (refine br_beq (fun _ => ?_) (fun _ => ?_) <;> first | (exfalso; omega) | contradiction | conv => whnf))
     ·refine Out.mk false [0, 1, 2, 3, 4] [] ?_
      try (conv => whnf)
      exact ⟨.inr ⟨fun h => by have := (h.good.at hlt).2.1 (by omega); simp only [ep] at *; omega, rfl, rfl⟩⟩
     ·have hsame : ∀ a ∈ l.take i, a.obj = l[i].obj → thI a.kind = thI l[i].kind := (kd_iff (fun k => thI_ne) hg.ok hs hok).1 (by rw [← book_kd]; first | exact .inl (by assumption) | exact .inr (by omega))
      refine Hand.mk [] ?_
      try (conv => whnf)
      refine CallW.k (i_put (bookOf (l.take i)) wf l[i] ⟨a0, a1⟩ hob (by omega) (by rw [book_size]; simp; omega)) ?_
      try (conv => whnf)
      repeat (refine Pick.mk ?_ ?_ ?_; rotate_left; (focus ((refine wid ?_ ?_ <;> omega))); conv => whnf)
      refine Pick.mk (i + 1) ⟨⟨by omega, Good1.step hlt hg hok (fun _ => by simp only [ep] at *; omega) (by rw [← e1]; omega), by rw [List.take_succ_eq_append_getElem hlt]; exact hs.snoc hsame⟩, by omega⟩ (LeX.of ?_)
      try (conv => whnf)
      repeat (refine Need.mk ?_ ?_; (focus (first | omega | (simp; done) | rfl)); conv => whnf)
      refine Need.mk (by rw [bookOf_take hlt]) ?_
      try (conv => whnf)
      trivial
     ·refine Hand.mk [] ?_
      try (conv => whnf)
      refine CallW.d (i_thing l[i]) ?_
      try (conv => whnf)
      repeat (refine Need.mk ?_ ?_; (focus (((conv => whnf); (repeat (first | (refine Need.mk (by first | rfl | omega | (simp; done)) ?_; conv => whnf) | (refine Pick.mk ?_ ?_ ?_; rotate_left; (focus (first | with_reducible exact xor_u8 _ _ | (with_reducible refine xor_i64 ?_ ?_; all_goals omega) | (with_reducible refine xor_u32 ?_ ?_; all_goals omega) | (refine bk_top ?_; assumption) | (with_reducible refine bk_size ?_; assumption) | (with_reducible refine bk_kd ?_ ?_ <;> first | assumption | omega) | (with_reducible refine bk_of ?_ ?_ <;> first | assumption | omega) | assumption | with_reducible exact set_byN _ _ _ _ | with_reducible exact set_byI _ _ _ _ | with_reducible exact set_inN _ _ _ _ | with_reducible exact set_inI _ _ _ _ | with_reducible exact set_stN _ _ _ _ | with_reducible exact set_tsN _ _ _ _ | with_reducible exact set_tsI _ _ _ _ | with_reducible exact set_boN _ _ _ _ | with_reducible exact set_boI _ _ _ _ | (with_reducible refine get_mapN _ _ _ ?_; first | omega | (simp; omega)) | (with_reducible refine get_mapI _ _ _ ?_ ?_ <;> first | omega | (simp; omega)) | exact bs_beq _ _ | exact bs_less _ _ | exact bs_leq _ _ | with_reducible exact bs_app _ _ | (refine bs_get _ _ ?_; omega) | (refine bs_int _ _ ?_ ?_ <;> omega) | with_reducible exact sl_map0 _ _ _ | with_reducible exact sl_mapN _ _ _ | with_reducible exact sl_map _ _ _ _ | exact bs_extract0 _ _ | exact bs_extractN _ _ | exact bs_extract _ _ _ | (refine bnd_id ?_; omega) | (refine bnd_sub ?_ ?_ <;> omega) | (refine bnd_add ?_; omega) | (refine bnd_subN ?_ ?_ <;> omega) | (refine bnd_int ?_ ?_ <;> omega) | ((show @Eq Nat (_ + Int.toNat _ * _) _); simp only [Int.toNat_natCast, Nat.zero_add, Nat.mul_one]; rfl) | ((show @Eq (List _) (List.set [_] _ _) _); simp only [List.set_cons_zero]; rfl) | exact List.length_map _ | exact size_bs _ | (simp only [List.length_map, List.length_append, List.length_cons, List.length_nil, List.length_replicate, Nat.zero_add]; rfl) | with_reducible exact List.nil_append _ | with_reducible exact map_app _ _ _ | exact map_snoc byD _ _ | exact map_snoc inD _ _ | exact map_snoc stD _ _ | exact map_snoc tsD _ _ | (simp only [chunks]; rfl) | (refine wid ?_ ?_ <;> omega) | exact wby _ | with_reducible exact wby32 _ | with_reducible exact wu32 _ | exact wby64 _ | exact shr8 _ | exact shr16 _ | exact shr24 _ | exact shr32 _ | (refine tmodn ?_; omega) | (refine wdiv ?_ ?_ ?_ <;> omega) | exact wbyte _ | exact natlit _ | exact rep_by _ | exact rep_in _ | exact rep_bo _ | exact rep_st _ | (refine pick_nat _ _ _ ?_; omega) | (refine pick_int _ _ _ ?_ ?_ <;> omega) | (refine SlOf.full ?_; first | (simp; done) | (simp; omega)) | (with_reducible refine SlOf.pre _ _ ?_; first | omega | (simp; omega)) | (refine SlF.self _ _ ?_ ?_; (first | rfl | omega | (simp; done) | (simp; omega)); (exact fun _ => rfl)) | (refine SlF.pre _ _ ?_ ?_; (first | omega | (simp; omega)); (exact fun _ => rfl)) | (refine SlF.same ?_ ?_; (first | rfl | omega | (simp; done) | (simp; omega)); (first | exact fz_self _ _ (fun _ => rfl) | exact fz_pl rfl | (refine Fz.append ?_ ?_ <;> first | exact fz_self _ _ (fun _ => rfl) | exact fz_pl rfl) | (refine Fz.append (Fz.append ?_ ?_) ?_ <;> first | exact fz_self _ _ (fun _ => rfl) | exact fz_pl rfl))) | (simp only [Int.toNat_natCast, Nat.zero_add, Nat.mul_one]; rfl) | ((show @Eq (Option CV) _ _); rfl) | ((fail_if_success (show @Eq (Option _) _ _)); rfl) | ((show @Eq (Option _) _ _); simp only [List.getElem?_cons_zero, List.getElem?_cons_succ]; done) | ((show @Eq (Option _) _ _); simp only [List.getElem?_cons_zero, List.getElem?_cons_succ]; rfl) | with_reducible rfl)); conv => whnf))); exact Done.mk trivial))); conv => whnf)
      try (conv => whnf)
      repeat' (first
       | (refine br_dec (fun _ => ?_) (fun _ => ?_) <;> first | (exfalso; omega) | contradiction | conv => whnf)
       | (refine br_not ?_; conv => whnf)
       | (refine br_bne (fun _ => ?_) (fun _ => ?_) <;> first | (exfalso; omega) | contradiction | conv => whnf)
       | (refine br_beq (fun _ => ?_) (fun _ => ?_) <;> first | (exfalso; omega) | contradiction | conv => whnf))
      rotate_left
      ·refine Out.mk false [0, 1, 2, 3, 4] [] ?_
       try (conv => whnf)
       exact ⟨.inr ⟨fun h => by
        have := (kd_iff (fun k => thI_ne) hg.ok hs hok).2 (SameTh.of_snoc (h.same.sub (m := l.take i ++ [l[i]]) (fun o ho => by rw [← List.take_succ_eq_append_getElem hlt] at ho; exact List.mem_of_mem_take ho)))
        rw [← book_kd] at this; omega, rfl, rfl⟩⟩
      ·have hsame : ∀ a ∈ l.take i, a.obj = l[i].obj → thI a.kind = thI l[i].kind := (kd_iff (fun k => thI_ne) hg.ok hs hok).1 (by rw [← book_kd]; first | exact .inl (by assumption) | exact .inr (by omega))
       refine Hand.mk [] ?_
       try (conv => whnf)
       refine CallW.k (i_put (bookOf (l.take i)) wf l[i] ⟨a0, a1⟩ hob (by omega) (by rw [book_size]; simp; omega)) ?_
       try (conv => whnf)
       repeat (refine Pick.mk ?_ ?_ ?_; rotate_left; (focus ((refine wid ?_ ?_ <;> omega))); conv => whnf)
       refine Pick.mk (i + 1) ⟨⟨by omega, Good1.step hlt hg hok (fun _ => by simp only [ep] at *; omega) (by rw [← e1]; omega), by rw [List.take_succ_eq_append_getElem hlt]; exact hs.snoc hsame⟩, by omega⟩ (LeX.of ?_)
       try (conv => whnf)
       repeat (refine Need.mk ?_ ?_; (focus (first | omega | (simp; done) | rfl)); conv => whnf)
       refine Need.mk (by rw [bookOf_take hlt]) ?_
       try (conv => whnf)
       trivial
     ·refine Out.mk false [0, 1, 2, 3, 4] [] ?_
      try (conv => whnf)
      exact ⟨.inr ⟨fun h => by have := (h.good.at hlt).2.2; rw [← e1] at this; omega, rfl, rfl⟩⟩
     ·have hsame : ∀ a ∈ l.take i, a.obj = l[i].obj → thI a.kind = thI l[i].kind := (kd_iff (fun k => thI_ne) hg.ok hs hok).1 (by rw [← book_kd]; first | exact .inl (by assumption) | exact .inr (by omega))
      refine Hand.mk [] ?_
      try (conv => whnf)
      refine CallW.k (i_put (bookOf (l.take i)) wf l[i] ⟨a0, a1⟩ hob (by omega) (by rw [book_size]; simp; omega)) ?_
      try (conv => whnf)
      repeat (refine Pick.mk ?_ ?_ ?_; rotate_left; (focus ((refine wid ?_ ?_ <;> omega))); conv => whnf)
      refine Pick.mk (i + 1) ⟨⟨by omega, Good1.step hlt hg hok (fun _ => by simp only [ep] at *; omega) (by rw [← e1]; omega), by rw [List.take_succ_eq_append_getElem hlt]; exact hs.snoc hsame⟩, by omega⟩ (LeX.of ?_)
      try (conv => whnf)
      repeat (refine Need.mk ?_ ?_; (focus (first | omega | (simp; done) | rfl)); conv => whnf)
      refine Need.mk (by rw [bookOf_take hlt]) ?_
      try (conv => whnf)
      trivial
     ·refine Hand.mk [] ?_
      try (conv => whnf)
      refine CallW.d (i_thing l[i]) ?_
      try (conv => whnf)
      repeat (refine Need.mk ?_ ?_; (focus (((conv => whnf); (repeat (first | (refine Need.mk (by first | rfl | omega | (simp; done)) ?_; conv => whnf) | (refine Pick.mk ?_ ?_ ?_; rotate_left; (focus (first | with_reducible exact xor_u8 _ _ | (with_reducible refine xor_i64 ?_ ?_; all_goals omega) | (with_reducible refine xor_u32 ?_ ?_; all_goals omega) | (refine bk_top ?_; assumption) | (with_reducible refine bk_size ?_; assumption) | (with_reducible refine bk_kd ?_ ?_ <;> first | assumption | omega) | (with_reducible refine bk_of ?_ ?_ <;> first | assumption | omega) | assumption | with_reducible exact set_byN _ _ _ _ | with_reducible exact set_byI _ _ _ _ | with_reducible exact set_inN _ _ _ _ | with_reducible exact set_inI _ _ _ _ | with_reducible exact set_stN _ _ _ _ | with_reducible exact set_tsN _ _ _ _ | with_reducible exact set_tsI _ _ _ _ | with_reducible exact set_boN _ _ _ _ | with_reducible exact set_boI _ _ _ _ | (with_reducible refine get_mapN _ _ _ ?_; first | omega | (simp; omega)) | (with_reducible refine get_mapI _ _ _ ?_ ?_ <;> first | omega | (simp; omega)) | exact bs_beq _ _ | exact bs_less _ _ | exact bs_leq _ _ | with_reducible exact bs_app _ _ | (refine bs_get _ _ ?_; omega) | (refine bs_int _ _ ?_ ?_ <;> omega) | with_reducible exact sl_map0 _ _ _ | with_reducible exact sl_mapN _ _ _ | with_reducible exact sl_map _ _ _ _ | exact bs_extract0 _ _ | exact bs_extractN _ _ | exact bs_extract _ _ _ | (refine bnd_id ?_; omega) | (refine bnd_sub ?_ ?_ <;> omega) | (refine bnd_add ?_; omega) | (refine bnd_subN ?_ ?_ <;> omega) | (refine bnd_int ?_ ?_ <;> omega) | ((show @Eq Nat (_ + Int.toNat _ * _) _); simp only [Int.toNat_natCast, Nat.zero_add, Nat.mul_one]; rfl) | ((show @Eq (List _) (List.set [_] _ _) _); simp only [List.set_cons_zero]; rfl) | exact List.length_map _ | exact size_bs _ | (simp only [List.length_map, List.length_append, List.length_cons, List.length_nil, List.length_replicate, Nat.zero_add]; rfl) | with_reducible exact List.nil_append _ | with_reducible exact map_app _ _ _ | exact map_snoc byD _ _ | exact map_snoc inD _ _ | exact map_snoc stD _ _ | exact map_snoc tsD _ _ | (simp only [chunks]; rfl) | (refine wid ?_ ?_ <;> omega) | exact wby _ | with_reducible exact wby32 _ | with_reducible exact wu32 _ | exact wby64 _ | exact shr8 _ | exact shr16 _ | exact shr24 _ | exact shr32 _ | (refine tmodn ?_; omega) | (refine wdiv ?_ ?_ ?_ <;> omega) | exact wbyte _ | exact natlit _ | exact rep_by _ | exact rep_in _ | exact rep_bo _ | exact rep_st _ | (refine pick_nat _ _ _ ?_; omega) | (refine pick_int _ _ _ ?_ ?_ <;> omega) | (refine SlOf.full ?_; first | (simp; done) | (simp; omega)) | (with_reducible refine SlOf.pre _ _ ?_; first | omega | (simp; omega)) | (refine SlF.self _ _ ?_ ?_; (first | rfl | omega | (simp; done) | (simp; omega)); (exact fun _ => rfl)) | (refine SlF.pre _ _ ?_ ?_; (first | omega | (simp; omega)); (exact fun _ => rfl)) | (refine SlF.same ?_ ?_; (first | rfl | omega | (simp; done) | (simp; omega)); (first | exact fz_self _ _ (fun _ => rfl) | exact fz_pl rfl | (refine Fz.append ?_ ?_ <;> first | exact fz_self _ _ (fun _ => rfl) | exact fz_pl rfl) | (refine Fz.append (Fz.append ?_ ?_) ?_ <;> first | exact fz_self _ _ (fun _ => rfl) | exact fz_pl rfl))) | (simp only [Int.toNat_natCast, Nat.zero_add, Nat.mul_one]; rfl) | ((show @Eq (Option CV) _ _); rfl) | ((fail_if_success (show @Eq (Option _) _ _)); rfl) | ((show @Eq (Option _) _ _); simp only [List.getElem?_cons_zero, List.getElem?_cons_succ]; done) | ((show @Eq (Option _) _ _); simp only [List.getElem?_cons_zero, List.getElem?_cons_succ]; rfl) | with_reducible rfl)); conv => whnf))); exact Done.mk trivial))); conv => whnf)
      try (conv => whnf)
      repeat' (first
       | (refine br_dec (fun _ => ?_) (fun _ => ?_) <;> first | (exfalso; omega) | contradiction | conv => whnf)
       | (refine br_not ?_; conv => whnf)
       | (refine br_bne (fun _ => ?_) (fun _ => ?_) <;> first | (exfalso; omega) | contradiction | conv => whnf)
       | (refine br_beq (fun _ => ?_) (fun _ => ?_) <;> first | (exfalso; omega) | contradiction | conv => whnf))
      rotate_left
      ·refine Out.mk false [0, 1, 2, 3, 4] [] ?_
       try (conv => whnf)
       exact ⟨.inr ⟨fun h => by
        have := (kd_iff (fun k => thI_ne) hg.ok hs hok).2 (SameTh.of_snoc (h.same.sub (m := l.take i ++ [l[i]]) (fun o ho => by rw [← List.take_succ_eq_append_getElem hlt] at ho; exact List.mem_of_mem_take ho)))
        rw [← book_kd] at this; omega, rfl, rfl⟩⟩
      ·have hsame : ∀ a ∈ l.take i, a.obj = l[i].obj → thI a.kind = thI l[i].kind := (kd_iff (fun k => thI_ne) hg.ok hs hok).1 (by rw [← book_kd]; first | exact .inl (by assumption) | exact .inr (by omega))
       refine Hand.mk [] ?_
       try (conv => whnf)
       refine CallW.k (i_put (bookOf (l.take i)) wf l[i] ⟨a0, a1⟩ hob (by omega) (by rw [book_size]; simp; omega)) ?_
       try (conv => whnf)
       repeat (refine Pick.mk ?_ ?_ ?_; rotate_left; (focus ((refine wid ?_ ?_ <;> omega))); conv => whnf)
       refine Pick.mk (i + 1) ⟨⟨by omega, Good1.step hlt hg hok (fun _ => by simp only [ep] at *; omega) (by rw [← e1]; omega), by rw [List.take_succ_eq_append_getElem hlt]; exact hs.snoc hsame⟩, by omega⟩ (LeX.of ?_)
       try (conv => whnf)
       repeat (refine Need.mk ?_ ?_; (focus (first | omega | (simp; done) | rfl)); conv => whnf)
       refine Need.mk (by rw [bookOf_take hlt]) ?_
       try (conv => whnf)
       trivial
     ·refine Out.mk false [0, 1, 2, 3, 4] [] ?_
      try (conv => whnf)
      exact ⟨.inr ⟨fun h => by have := (h.good.at hlt).2.2; rw [← e1] at this; omega, rfl, rfl⟩⟩
    ·refine Hand.mk [] ?_
     try (conv => whnf)
     refine CallW.d (i_opOK l[i] hk ht) ?_
     try (conv => whnf)
     try (conv => whnf)
     repeat' (first
      | (refine br_dec (fun _ => ?_) (fun _ => ?_) <;> first | (exfalso; omega) | contradiction | conv => whnf)
      | (refine br_not ?_; conv => whnf)
      | (refine br_bne (fun _ => ?_) (fun _ => ?_) <;> first | (exfalso; omega) | contradiction | conv => whnf)
      | (refine br_beq (fun _ => ?_) (fun _ => ?_) <;> first | (exfalso; omega) | contradiction | conv => whnf))
     refine Out.mk false [0, 1, 2, 3, 4] [] ?_
     try (conv => whnf)
     exact ⟨.inr ⟨fun h => hok (h.good.at hlt).1, rfl, rfl⟩⟩
   ·have e : l.take i = l := List.take_of_length_le (by omega)
    have hgl : Good1 l l.length := by
     have e9 : i = l.length := by omega
     rwa [e9] at hg
    have hsl : SameTh thI l := by rwa [e] at hs
    have wf := bookOf_wf l
    refine LoopE.mk (fun i : Nat => mk [(0, vL l), (79, vL l), (80, vI .i64 l.length), (81, vI .i64 i), (4, .one (.ep (.v 16400) 120 0 0))] [(16400, .own 120 [bookD (bookOf l)])])
     (fun i => i ≤ l.length ∧ ∀ o ∈ l.take i, Cause l o) (fun i => l.length - i) 0 ⟨by omega, by simp⟩ (LeX.of ?_) ?_
    ·try (conv => whnf)
     repeat (refine Need.mk ?_ ?_; (focus (first | omega | (simp; done))); conv => whnf)
     refine Need.mk (by rw [e]) ?_
     try (conv => whnf)
     trivial
    ·rintro i ⟨hi, hc⟩
     try (conv => whnf)
     repeat' (first
      | (refine Pick.mk ?_ ?_ ?_; rotate_left; (focus (first | exact List.length_map _ | (refine pick_nat _ _ _ ?_; omega))); conv => whnf)
      | (refine SeqJ.thru ?_; conv => whnf)
      | (refine br_dec (fun _ => ?_) (fun _ => ?_) <;> first | (exfalso; omega) | contradiction | conv => whnf)
      | (refine br_not ?_; conv => whnf)
      | (refine br_bne (fun _ => ?_) (fun _ => ?_) <;> first | (exfalso; omega) | contradiction | conv => whnf)
      | (refine br_beq (fun _ => ?_) (fun _ => ?_) <;> first | (exfalso; omega) | contradiction | conv => whnf))
     ·have hlt : i < l.length := by omega
      have hok := (hgl.at hlt).1
      have hvl := hok.vec.1
      refine LoopE.mk (fun j : Nat => mk [(0, vL l), (87, vN l[i].deps), (88, vI .i64 l[i].deps.length), (89, vI .i64 j), (8, .one (.ptr 65568 0)), (79, vL l), (80, vI .i64 l.length), (81, vI .i64 i), (4, .one (.ep (.v 16400) 120 0 0))] [(16400, .own 120 [bookD (bookOf l)]), (65568, .box (opC l[i]))])
       (fun j => j ≤ l[i].deps.length ∧ ∀ a : Nat, a < j → CauseAt l l[i] a) (fun j => l[i].deps.length - j) 0 ⟨by omega, fun a h => by omega⟩ (LeX.of ?_) ?_
      ·try (conv => whnf)
       repeat (refine Need.mk ?_ ?_; (focus (first | omega | (simp; done))); conv => whnf)
       trivial
      ·rintro j ⟨hj, hca⟩
       by_cases hjl : j < l[i].deps.length
       ·have e1 := book_of (a := j) (by omega) l hgl.all
        have e3 : l[i].deps.getD j 0 = l[i].deps[j] := by simp [List.getD, hjl]
        obtain ⟨c0, c1⟩ := hok.vec.2 _ (List.getElem_mem hjl)
        have step : CauseAt l l[i] j → ∀ a : Nat, a < j + 1 → CauseAt l l[i] a := fun h a ha => by
         rcases Nat.lt_or_ge a j with g | g
         ·exact hca a g
         ·obtain rfl : a = j := by omega
          exact h
        try (conv => whnf)
        repeat' (first
         | (refine Need.mk ?_ ?_; (focus (first | omega | ((conv => whnf); (repeat (first | (refine Need.mk (by first | rfl | omega | (simp; done)) ?_; conv => whnf) | (refine Pick.mk ?_ ?_ ?_; rotate_left; (focus (first | with_reducible exact xor_u8 _ _ | (with_reducible refine xor_i64 ?_ ?_; all_goals omega) | (with_reducible refine xor_u32 ?_ ?_; all_goals omega) | (refine bk_top ?_; assumption) | (with_reducible refine bk_size ?_; assumption) | (with_reducible refine bk_kd ?_ ?_ <;> first | assumption | omega) | (with_reducible refine bk_of ?_ ?_ <;> first | assumption | omega) | assumption | with_reducible exact set_byN _ _ _ _ | with_reducible exact set_byI _ _ _ _ | with_reducible exact set_inN _ _ _ _ | with_reducible exact set_inI _ _ _ _ | with_reducible exact set_stN _ _ _ _ | with_reducible exact set_tsN _ _ _ _ | with_reducible exact set_tsI _ _ _ _ | with_reducible exact set_boN _ _ _ _ | with_reducible exact set_boI _ _ _ _ | (with_reducible refine get_mapN _ _ _ ?_; first | omega | (simp; omega)) | (with_reducible refine get_mapI _ _ _ ?_ ?_ <;> first | omega | (simp; omega)) | exact bs_beq _ _ | exact bs_less _ _ | exact bs_leq _ _ | with_reducible exact bs_app _ _ | (refine bs_get _ _ ?_; omega) | (refine bs_int _ _ ?_ ?_ <;> omega) | with_reducible exact sl_map0 _ _ _ | with_reducible exact sl_mapN _ _ _ | with_reducible exact sl_map _ _ _ _ | exact bs_extract0 _ _ | exact bs_extractN _ _ | exact bs_extract _ _ _ | (refine bnd_id ?_; omega) | (refine bnd_sub ?_ ?_ <;> omega) | (refine bnd_add ?_; omega) | (refine bnd_subN ?_ ?_ <;> omega) | (refine bnd_int ?_ ?_ <;> omega) | ((show @Eq Nat (_ + Int.toNat _ * _) _); simp only [Int.toNat_natCast, Nat.zero_add, Nat.mul_one]; rfl) | ((show @Eq (List _) (List.set [_] _ _) _); simp only [List.set_cons_zero]; rfl) | exact List.length_map _ | exact size_bs _ | (simp only [List.length_map, List.length_append, List.length_cons, List.length_nil, List.length_replicate, Nat.zero_add]; rfl) | with_reducible exact List.nil_append _ | with_reducible exact map_app _ _ _ | exact map_snoc byD _ _ | exact map_snoc inD _ _ | exact map_snoc stD _ _ | exact map_snoc tsD _ _ | (simp only [chunks]; rfl) | (refine wid ?_ ?_ <;> omega) | exact wby _ | with_reducible exact wby32 _ | with_reducible exact wu32 _ | exact wby64 _ | exact shr8 _ | exact shr16 _ | exact shr24 _ | exact shr32 _ | (refine tmodn ?_; omega) | (refine wdiv ?_ ?_ ?_ <;> omega) | exact wbyte _ | exact natlit _ | exact rep_by _ | exact rep_in _ | exact rep_bo _ | exact rep_st _ | (refine pick_nat _ _ _ ?_; omega) | (refine pick_int _ _ _ ?_ ?_ <;> omega) | (refine SlOf.full ?_; first | (simp; done) | (simp; omega)) | (with_reducible refine SlOf.pre _ _ ?_; first | omega | (simp; omega)) | (refine SlF.self _ _ ?_ ?_; (first | rfl | omega | (simp; done) | (simp; omega)); (exact fun _ => rfl)) | (refine SlF.pre _ _ ?_ ?_; (first | omega | (simp; omega)); (exact fun _ => rfl)) | (refine SlF.same ?_ ?_; (first | rfl | omega | (simp; done) | (simp; omega)); (first | exact fz_self _ _ (fun _ => rfl) | exact fz_pl rfl | (refine Fz.append ?_ ?_ <;> first | exact fz_self _ _ (fun _ => rfl) | exact fz_pl rfl) | (refine Fz.append (Fz.append ?_ ?_) ?_ <;> first | exact fz_self _ _ (fun _ => rfl) | exact fz_pl rfl))) | (simp only [Int.toNat_natCast, Nat.zero_add, Nat.mul_one]; rfl) | ((show @Eq (Option CV) _ _); rfl) | ((fail_if_success (show @Eq (Option _) _ _)); rfl) | ((show @Eq (Option _) _ _); simp only [List.getElem?_cons_zero, List.getElem?_cons_succ]; done) | ((show @Eq (Option _) _ _); simp only [List.getElem?_cons_zero, List.getElem?_cons_succ]; rfl) | with_reducible rfl)); conv => whnf))); exact Done.mk trivial))); conv => whnf)
         | (refine Pick.mk ?_ ?_ ?_; rotate_left; (focus (first | (with_reducible refine bk_of ?_ ?_ <;> first | assumption | omega) | (with_reducible refine get_mapI _ _ _ ?_ ?_ <;> first | omega | (simp; omega)) | ((show @Eq Nat (_ + Int.toNat _ * _) _); simp only [Int.toNat_natCast, Nat.zero_add, Nat.mul_one]; rfl) | (refine wid ?_ ?_ <;> omega) | (refine pick_nat _ _ _ ?_; omega) | ((show @Eq (Option _) _ _); simp only [List.getElem?_cons_zero, List.getElem?_cons_succ]; rfl))); conv => whnf)
         | (refine SeqJ.thru ?_; conv => whnf)
         | (refine br_dec (fun _ => ?_) (fun _ => ?_) <;> first | (exfalso; omega) | contradiction | conv => whnf)
         | (refine br_not ?_; conv => whnf)
         | (refine br_bne (fun _ => ?_) (fun _ => ?_) <;> first | (exfalso; omega) | contradiction | conv => whnf)
         | (refine br_beq (fun _ => ?_) (fun _ => ?_) <;> first | (exfalso; omega) | contradiction | conv => whnf))
        ·refine Out.mk false [0, 1, 2, 3, 4] [] ?_
         try (conv => whnf)
         exact ⟨.inr ⟨fun h => by have := (h.cause _ (List.getElem_mem hlt) j (by omega)).1; rw [e3, ← e1] at this; omega, rfl, rfl⟩⟩
        ·have e4 : (own l j)[(l[i].deps.getD j 0 - 1).toNat]? = some (((bookOf l).of.getD j [])[(l[i].deps[j] - 1).toNat]'(by omega)) := by rw [e3, ← e1]; exact List.getElem?_eq_getElem _
         refine Hand.mk [] ?_
         try (conv => whnf)
         refine CallW.d (i_stamp (((bookOf l).of.getD j [])[(l[i].deps[j] - 1).toNat]'(by omega))) ?_
         try (conv => whnf)
         repeat (refine Need.mk ?_ ?_; (focus (((conv => whnf); (repeat (first | (refine Need.mk (by first | rfl | omega | (simp; done)) ?_; conv => whnf) | (refine Pick.mk ?_ ?_ ?_; rotate_left; (focus (first | with_reducible exact xor_u8 _ _ | (with_reducible refine xor_i64 ?_ ?_; all_goals omega) | (with_reducible refine xor_u32 ?_ ?_; all_goals omega) | (refine bk_top ?_; assumption) | (with_reducible refine bk_size ?_; assumption) | (with_reducible refine bk_kd ?_ ?_ <;> first | assumption | omega) | (with_reducible refine bk_of ?_ ?_ <;> first | assumption | omega) | assumption | with_reducible exact set_byN _ _ _ _ | with_reducible exact set_byI _ _ _ _ | with_reducible exact set_inN _ _ _ _ | with_reducible exact set_inI _ _ _ _ | with_reducible exact set_stN _ _ _ _ | with_reducible exact set_tsN _ _ _ _ | with_reducible exact set_tsI _ _ _ _ | with_reducible exact set_boN _ _ _ _ | with_reducible exact set_boI _ _ _ _ | (with_reducible refine get_mapN _ _ _ ?_; first | omega | (simp; omega)) | (with_reducible refine get_mapI _ _ _ ?_ ?_ <;> first | omega | (simp; omega)) | exact bs_beq _ _ | exact bs_less _ _ | exact bs_leq _ _ | with_reducible exact bs_app _ _ | (refine bs_get _ _ ?_; omega) | (refine bs_int _ _ ?_ ?_ <;> omega) | with_reducible exact sl_map0 _ _ _ | with_reducible exact sl_mapN _ _ _ | with_reducible exact sl_map _ _ _ _ | exact bs_extract0 _ _ | exact bs_extractN _ _ | exact bs_extract _ _ _ | (refine bnd_id ?_; omega) | (refine bnd_sub ?_ ?_ <;> omega) | (refine bnd_add ?_; omega) | (refine bnd_subN ?_ ?_ <;> omega) | (refine bnd_int ?_ ?_ <;> omega) | ((show @Eq Nat (_ + Int.toNat _ * _) _); simp only [Int.toNat_natCast, Nat.zero_add, Nat.mul_one]; rfl) | ((show @Eq (List _) (List.set [_] _ _) _); simp only [List.set_cons_zero]; rfl) | exact List.length_map _ | exact size_bs _ | (simp only [List.length_map, List.length_append, List.length_cons, List.length_nil, List.length_replicate, Nat.zero_add]; rfl) | with_reducible exact List.nil_append _ | with_reducible exact map_app _ _ _ | exact map_snoc byD _ _ | exact map_snoc inD _ _ | exact map_snoc stD _ _ | exact map_snoc tsD _ _ | (simp only [chunks]; rfl) | (refine wid ?_ ?_ <;> omega) | exact wby _ | with_reducible exact wby32 _ | with_reducible exact wu32 _ | exact wby64 _ | exact shr8 _ | exact shr16 _ | exact shr24 _ | exact shr32 _ | (refine tmodn ?_; omega) | (refine wdiv ?_ ?_ ?_ <;> omega) | exact wbyte _ | exact natlit _ | exact rep_by _ | exact rep_in _ | exact rep_bo _ | exact rep_st _ | (refine pick_nat _ _ _ ?_; omega) | (refine pick_int _ _ _ ?_ ?_ <;> omega) | (refine SlOf.full ?_; first | (simp; done) | (simp; omega)) | (with_reducible refine SlOf.pre _ _ ?_; first | omega | (simp; omega)) | (refine SlF.self _ _ ?_ ?_; (first | rfl | omega | (simp; done) | (simp; omega)); (exact fun _ => rfl)) | (refine SlF.pre _ _ ?_ ?_; (first | omega | (simp; omega)); (exact fun _ => rfl)) | (refine SlF.same ?_ ?_; (first | rfl | omega | (simp; done) | (simp; omega)); (first | exact fz_self _ _ (fun _ => rfl) | exact fz_pl rfl | (refine Fz.append ?_ ?_ <;> first | exact fz_self _ _ (fun _ => rfl) | exact fz_pl rfl) | (refine Fz.append (Fz.append ?_ ?_) ?_ <;> first | exact fz_self _ _ (fun _ => rfl) | exact fz_pl rfl))) | (simp only [Int.toNat_natCast, Nat.zero_add, Nat.mul_one]; rfl) | ((show @Eq (Option CV) _ _); rfl) | ((fail_if_success (show @Eq (Option _) _ _)); rfl) | ((show @Eq (Option _) _ _); simp only [List.getElem?_cons_zero, List.getElem?_cons_succ]; done) | ((show @Eq (Option _) _ _); simp only [List.getElem?_cons_zero, List.getElem?_cons_succ]; rfl) | with_reducible rfl)); conv => whnf))); exact Done.mk trivial))); conv => whnf)
         refine Hand.mk [] ?_
         try (conv => whnf)
         refine CallW.d (i_stamp l[i]) ?_
         try (conv => whnf)
         refine Hand.mk [] ?_
         try (conv => whnf)
         refine CallW.d (i_StampLess _ _ l[i].time l[i].actor) ?_
         try (conv => whnf)
         try (conv => whnf)
         repeat' (first
          | (refine Pick.mk ?_ ?_ ?_; rotate_left; (focus ((refine wid ?_ ?_ <;> omega))); conv => whnf)
          | (refine br_dec (fun _ => ?_) (fun _ => ?_) <;> first | (exfalso; omega) | contradiction | conv => whnf)
          | (refine br_not ?_; conv => whnf)
          | (refine br_bne (fun _ => ?_) (fun _ => ?_) <;> first | (exfalso; omega) | contradiction | conv => whnf)
          | (refine br_beq (fun _ => ?_) (fun _ => ?_) <;> first | (exfalso; omega) | contradiction | conv => whnf))
         ·rename_i hst
          refine Pick.mk (j + 1) ⟨⟨by omega, step ⟨by rw [e3, ← e1]; omega, fun _ p hp => by rw [e4] at hp; injection hp with hp; subst hp; exact hst⟩⟩, by omega⟩ (LeX.of ?_)
          try (conv => whnf)
          repeat (refine Need.mk ?_ ?_; (focus (first | omega | (simp; done))); conv => whnf)
          trivial
         ·rename_i hst
          refine Out.mk false [0, 1, 2, 3, 4] [] ?_
          try (conv => whnf)
          exact ⟨.inr ⟨fun h => hst ((h.cause _ (List.getElem_mem hlt) j (by omega)).2 (by rw [e3]; omega) _ e4), rfl, rfl⟩⟩
        ·refine Pick.mk (j + 1) ⟨⟨by omega, step ⟨by rw [e3, ← e1]; omega, fun h => by rw [e3] at h; omega⟩⟩, by omega⟩ (LeX.of ?_)
         try (conv => whnf)
         repeat (refine Need.mk ?_ ?_; (focus (first | omega | (simp; done))); conv => whnf)
         trivial
       ·try (conv => whnf)
        repeat' (first
         | (refine Pick.mk ?_ ?_ ?_; rotate_left; (focus ((refine wid ?_ ?_ <;> omega))); conv => whnf)
         | (refine SeqJ.thru ?_; conv => whnf)
         | (refine br_dec (fun _ => ?_) (fun _ => ?_) <;> first | (exfalso; omega) | contradiction | conv => whnf)
         | (refine br_not ?_; conv => whnf)
         | (refine br_bne (fun _ => ?_) (fun _ => ?_) <;> first | (exfalso; omega) | contradiction | conv => whnf)
         | (refine br_beq (fun _ => ?_) (fun _ => ?_) <;> first | (exfalso; omega) | contradiction | conv => whnf))
        refine Pick.mk (i + 1) ⟨⟨by omega, all_next hlt hc fun a ha => hca a (by omega)⟩, by omega⟩ (LeX.of ?_)
        try (conv => whnf)
        repeat (refine Need.mk ?_ ?_; (focus (first | omega | (simp; done))); conv => whnf)
        trivial
     ·refine Out.mk false [0, 1, 2, 3, 4] [] ?_
      try (conv => whnf)
      exact ⟨.inl ⟨⟨by omega, hgl, hsl, by rwa [List.take_of_length_le (by omega)] at hc⟩, rfl, rfl⟩⟩
end Go.Proofs.Ytpdjehnlejjfmaa.D
/- A log's bytes by the program. -/
namespace Go.Proofs.Ytpdjehnlejjfmaa.D
open Go.RowKit
set_option maxRecDepth 100000
set_option maxHeartbeats 4000000
set_option linter.unusedVariables false
set_option linter.unusedSimpArgs false

end Go.Proofs.Ytpdjehnlejjfmaa.D
/- LogBytes by the program. -/
namespace Go.Proofs.Ytpdjehnlejjfmaa.D
open Go.RowKit
set_option maxRecDepth 100000
set_option maxHeartbeats 4000000
set_option linter.unusedVariables false
set_option linter.unusedSimpArgs false

theorem i_LogOK (l : List OpV) (hw : ∀ o ∈ l, o.key.length ≤ 2 ^ 40 ∧ o.text.length ≤ 2 ^ 40) : CallD Try.prog id_impl_LogOK [vL l] [] (vB (decide (LogOk l))) [] := by
 refine F_impl_LogOK ?_
 try (conv => whnf)
 refine Hand.mk [] ?_
 try (conv => whnf)
 refine CallW.n (i_readBook l hw) ?_
 rintro _ _ (⟨h, rfl, rfl⟩ | ⟨h, rfl, rfl⟩)
 ·try (conv => whnf)
  refine Out.mk true [] [] ?_
  try (conv => whnf)
  exact ⟨dec_t h, rfl⟩
 ·try (conv => whnf)
  refine Out.mk true [] [] ?_
  try (conv => whnf)
  exact ⟨dec_f h, rfl⟩
end Go.Proofs.Ytpdjehnlejjfmaa.D
/- Records read out of bytes, by the reference. -/
namespace Go.Proofs.Ytpdjehnlejjfmaa.D
open Go.RowKit
set_option maxRecDepth 100000
set_option maxHeartbeats 4000000
set_option linter.unusedVariables false
set_option linter.unusedSimpArgs false

end Go.Proofs.Ytpdjehnlejjfmaa.D
/- A log read out of bytes, by the program. -/
namespace Go.Proofs.Ytpdjehnlejjfmaa.D
open Go.RowKit
set_option maxRecDepth 100000
set_option maxHeartbeats 40000000
set_option linter.unusedVariables false
set_option linter.unusedSimpArgs false

abbrev colD (x : List Int) : DV := .ow 1 0 x.length (x.map inD)
def arC (cs : List (List Int)) : List DV := cs.map colD ++ List.replicate (25 - cs.length) (.ow 1 0 0 [])
theorem arC_get {cs : List (List Int)} {i : Nat} (h : i < cs.length) : (arC cs)[i]? = some (colD cs[i]) := by
 rw [arC, List.getElem?_append_left (by simpa using h), List.getElem?_map, List.getElem?_eq_getElem h]; rfl
theorem arC_set {cs : List (List Int)} (h : cs.length < 25) (xs : List Int) : [arC cs].set 0 (splice (arC cs) cs.length [.ow 1 0 xs.length (xs.map inD)]) = [arC (cs ++ [xs])] := by
 rw [List.set_cons_zero]
 congr 1
 unfold splice arC
 obtain ⟨k, hk⟩ : ∃ k, 25 - cs.length = k + 1 := ⟨24 - cs.length, by omega⟩
 rw [List.take_left' (by simp), hk, List.replicate_succ, List.drop_append, List.drop_of_length_le (by simp)]
 simp only [List.length_map, List.length_singleton, List.nil_append, List.map_append, List.map_cons, List.map_nil, List.length_append]
 rw [show cs.length + 1 - cs.length = 1 by omega, show 25 - (cs.length + 1) = k by omega]
 simp
theorem arC_last (cs : List (List Int)) (xs : List Int) : (arC (cs ++ [xs]))[cs.length]? = some (.ow 1 0 xs.length (xs.map inD)) := by
 rw [arC_get (by simp)]; simp
theorem arC_first (y : List Int) (cs : List (List Int)) : (arC (y :: cs))[0]? = some (.ow 1 0 y.length (y.map inD)) := arC_get (by simp)
theorem logOf_words {cs : List (List Int)} {ks ts : List (List UInt8)} {n : Nat} {o : OpV} (h : o ∈ logOf cs ks ts n) : o.key.length ≤ total ks ∧ o.text.length ≤ total ts := by
 have hg : ∀ (w : List (List UInt8)) (i : Nat), (w.getD i []).length ≤ total w := fun w i => by
  rw [List.getD_eq_getElem?_getD]
  rcases Nat.lt_or_ge i w.length with hi | hi
  ·rw [List.getElem?_eq_getElem hi]; exact total_get hi
  ·rw [List.getElem?_eq_none hi]; simp
 obtain ⟨i, _, rfl⟩ := List.mem_map.1 h
 exact ⟨hg ks i, hg ts i⟩
theorem i_opFromM (n : List Int) (m : Nat) (hm : m = n.length) (z : Int) (s t : List UInt8) (hn : n.length = 25) (h5 : inM (n[5]'(by omega))) (hz : zag (n[5]'(by omega)).toNat = z) :
  CallMD Try.prog id_impl_opFrom [.one (.os (.v 0) 1 0 m), vS (bs s), vS (bs t)] [.own 1 (n.map inD)] []
   (.agg [cI (n[0]'(by omega)), cI (n[1]'(by omega)), cI (n[2]'(by omega)), .os (.v 0) 1 9 (m - 9), cI (n[3]'(by omega)), cI (n[4]'(by omega)), cI z, cI (n[6]'(by omega)), cI (n[7]'(by omega)), cI (n[8]'(by omega)), cS (bs s), cS (bs t)]) [.own 1 (n.map inD)] := by
 subst hm; exact i_opFrom n z s t hn h5 hz
theorem snoc_oPM {out : List (List Int × OpV)} {n : List Int} {o : OpV} {m : Nat} (hm : m = n.length) (hn : n.length = 25) (hd : n.drop 9 = o.deps) :
  out.map oP ++ [[dJ o.actor, dJ o.seq, dJ o.time, .ow 1 9 (m - 9) (n.map inD), dJ o.kind, dJ o.obj, dJ o.n, dJ o.undo, dJ o.atT, dJ o.atA, .sc (.string (bs o.key)), .sc (.string (bs o.text))]] = (out ++ [(n.take 9, o)]).map oP := by
 subst hm; exact snoc_oP hn hd
def RlP (l : List UInt8) : SV → List Row → Prop := fun r Lo => ∃ (ps : List (List Int × OpV)) (c : Int), RlA l c (ps.map (·.2)) ∧ (∀ p ∈ ps, goodP p) ∧
 r = .tup [(false, [.os (.v 0) 12 0 ps.length]), (false, [cI c])] ∧ Lo = [.own 12 (ps.map oP)]
theorem i_ReadLog (l : List UInt8) (hl : l.length ≤ 2 ^ 47) : CallM Try.prog id_impl_ReadLog [vY l] [] [] true (RlP l) := by
 refine F_impl_ReadLog ?_
 by_cases hlong : l.length > 1048576
 ·try (conv => whnf)
  repeat' (first
   | (refine Pick.mk ?_ ?_ ?_; rotate_left; (focus (exact List.length_map _)); conv => whnf)
   | (refine SeqJ.thru ?_; conv => whnf)
   | (refine br_dec (fun _ => ?_) (fun _ => ?_) <;> first | (exfalso; omega) | contradiction | conv => whnf)
   | (refine br_not ?_; conv => whnf)
   | (refine br_bne (fun _ => ?_) (fun _ => ?_) <;> first | (exfalso; omega) | contradiction | conv => whnf)
   | (refine br_beq (fun _ => ?_) (fun _ => ?_) <;> first | (exfalso; omega) | contradiction | conv => whnf))
  refine Out.mk false [0, 1, 2, 3, 4] [(0, 12)] ?_
  try (conv => whnf)
  repeat (refine Need.mk ?_ ?_; (focus ((first | exact flat_by _ | exact flat_in _ | exact flat_st _ | exact flat_ts _ | exact flat_bo _ | exact flat_cl rfl))); conv => whnf)
  exact ⟨⟨[], 2, rl_long hlong, by simp, rfl, rfl⟩⟩
 by_cases h4 : l.length < 4
 ·try (conv => whnf)
  repeat' (first
   | (refine Need.mk ?_ ?_; (focus ((show rechs _ _ _ _; (conv => whnf); (repeat (first | (refine Need.mk ?_ ?_; (focus (first | with_reducible rfl | omega | (simp; done) | rfl)); conv => whnf) | (refine Pick.mk ?_ ?_ ?_; rotate_left; (focus (first | with_reducible exact xor_u8 _ _ | (with_reducible refine xor_i64 ?_ ?_; all_goals omega) | (with_reducible refine xor_u32 ?_ ?_; all_goals omega) | exact hj1 | exact sl_opsP hps (by omega) | exact hz | with_reducible exact arC_last _ _ | exact arC_set h25 _ | assumption | with_reducible exact set_byN _ _ _ _ | with_reducible exact set_byI _ _ _ _ | with_reducible exact set_inN _ _ _ _ | with_reducible exact set_inI _ _ _ _ | with_reducible exact set_stN _ _ _ _ | with_reducible exact set_tsN _ _ _ _ | with_reducible exact set_tsI _ _ _ _ | with_reducible exact set_boN _ _ _ _ | with_reducible exact set_boI _ _ _ _ | (with_reducible refine get_mapN _ _ _ ?_; first | omega | (simp; omega)) | (with_reducible refine get_mapI _ _ _ ?_ ?_ <;> first | omega | (simp; omega)) | exact bs_beq _ _ | exact bs_less _ _ | exact bs_leq _ _ | with_reducible exact bs_app _ _ | (refine bs_get _ _ ?_; omega) | (refine bs_int _ _ ?_ ?_ <;> omega) | with_reducible exact sl_map0 _ _ _ | with_reducible exact sl_mapN _ _ _ | with_reducible exact sl_map _ _ _ _ | exact bs_extract0 _ _ | exact bs_extractN _ _ | exact bs_extract _ _ _ | (refine bnd_id ?_; omega) | (refine bnd_sub ?_ ?_ <;> omega) | (refine bnd_add ?_; omega) | (refine bnd_subN ?_ ?_ <;> omega) | (refine bnd_int ?_ ?_ <;> omega) | ((show @Eq Nat (_ + Int.toNat _ * _) _); simp only [Int.toNat_natCast, Nat.zero_add, Nat.mul_one]; rfl) | ((show @Eq (List _) (List.set [_] _ _) _); simp only [List.set_cons_zero]; rfl) | exact List.length_map _ | exact size_bs _ | (simp only [List.length_map, List.length_append, List.length_cons, List.length_nil, List.length_replicate, Nat.zero_add]; rfl) | with_reducible exact List.nil_append _ | with_reducible exact map_app _ _ _ | exact map_snoc byD _ _ | exact map_snoc inD _ _ | exact map_snoc stD _ _ | exact map_snoc tsD _ _ | (simp only [chunks]; rfl) | (refine wid ?_ ?_ <;> omega) | exact wby _ | with_reducible exact wby32 _ | with_reducible exact wu32 _ | exact wby64 _ | exact shr8 _ | exact shr16 _ | exact shr24 _ | exact shr32 _ | (refine tmodn ?_; omega) | (refine wdiv ?_ ?_ ?_ <;> omega) | exact wbyte _ | exact natlit _ | exact rep_by _ | exact rep_in _ | exact rep_bo _ | exact rep_st _ | (refine pick_nat _ _ _ ?_; omega) | (refine pick_int _ _ _ ?_ ?_ <;> omega) | (refine SlOf.full ?_; first | (simp; done) | (simp; omega)) | (with_reducible refine SlOf.pre _ _ ?_; first | omega | (simp; omega)) | (refine SlF.self _ _ ?_ ?_; (first | rfl | omega | (simp; done) | (simp; omega)); (exact fun _ => rfl)) | (refine SlF.pre _ _ ?_ ?_; (first | omega | (simp; omega)); (exact fun _ => rfl)) | (refine SlF.same ?_ ?_; (first | rfl | omega | (simp; done) | (simp; omega)); (first | exact fz_self _ _ (fun _ => rfl) | exact fz_pl rfl | (refine Fz.append ?_ ?_ <;> first | exact fz_self _ _ (fun _ => rfl) | exact fz_pl rfl) | (refine Fz.append (Fz.append ?_ ?_) ?_ <;> first | exact fz_self _ _ (fun _ => rfl) | exact fz_pl rfl))) | (simp only [Int.toNat_natCast, Nat.zero_add, Nat.mul_one]; rfl) | ((show @Eq (Option CV) _ _); rfl) | ((fail_if_success (show @Eq (Option _) _ _)); rfl) | ((show @Eq (Option _) _ _); simp only [List.getElem?_cons_zero, List.getElem?_cons_succ]; done) | ((show @Eq (Option _) _ _); simp only [List.getElem?_cons_zero, List.getElem?_cons_succ]; rfl) | with_reducible rfl)); conv => whnf))); exact Done.mk trivial))); conv => whnf)
   | (refine Pick.mk ?_ ?_ ?_; rotate_left; (focus (first | exact List.length_map _ | (refine wid ?_ ?_ <;> omega))); conv => whnf)
   | (refine SeqJ.thru ?_; conv => whnf)
   | (refine br_dec (fun _ => ?_) (fun _ => ?_) <;> first | (exfalso; omega) | contradiction | conv => whnf)
   | (refine br_not ?_; conv => whnf)
   | (refine br_bne (fun _ => ?_) (fun _ => ?_) <;> first | (exfalso; omega) | contradiction | conv => whnf)
   | (refine br_beq (fun _ => ?_) (fun _ => ?_) <;> first | (exfalso; omega) | contradiction | conv => whnf))
  refine Out.mk false [0, 1, 2, 3, 4] [(0, 12)] ?_
  try (conv => whnf)
  repeat (refine Need.mk ?_ ?_; (focus ((first | exact flat_by _ | exact flat_in _ | exact flat_st _ | exact flat_ts _ | exact flat_bo _ | exact flat_cl rfl))); conv => whnf)
  exact ⟨⟨[], 10, rl_sum hlong (.inl h4), by simp, rfl, rfl⟩⟩
 have hsb := sumH_lt (h := 2166136261) (by omega) (l.take (l.length - 4))
 have cs1 := i_sumOn 2166136261 (l.take (l.length - 4)) (by omega) (by simp; omega)
 try (conv => whnf)
 repeat' (first
  | (refine Need.mk ?_ ?_; (focus ((simp; done))); conv => whnf)
  | (refine Pick.mk ?_ ?_ ?_; rotate_left; (focus (first | with_reducible exact sl_map0 _ _ _ | with_reducible exact sl_mapN _ _ _ | (refine bnd_sub ?_ ?_ <;> omega) | exact List.length_map _ | (simp only [List.length_map, List.length_append, List.length_cons, List.length_nil, List.length_replicate, Nat.zero_add]; rfl) | (refine wid ?_ ?_ <;> omega))); conv => whnf)
  | (refine SeqJ.thru ?_; conv => whnf)
  | (refine br_dec (fun _ => ?_) (fun _ => ?_) <;> first | (exfalso; omega) | contradiction | conv => whnf)
  | (refine br_not ?_; conv => whnf)
  | (refine br_bne (fun _ => ?_) (fun _ => ?_) <;> first | (exfalso; omega) | contradiction | conv => whnf)
  | (refine br_beq (fun _ => ?_) (fun _ => ?_) <;> first | (exfalso; omega) | contradiction | conv => whnf))
 by_cases hs : four (sumH 2166136261 (l.take (l.length - 4))) = l.drop (l.length - 4)
 rotate_left
 ·try (conv => whnf)
  repeat' (first
   | (refine br_dec (fun _ => ?_) (fun _ => ?_) <;> first | (exfalso; omega) | contradiction | conv => whnf)
   | (refine br_not ?_; conv => whnf)
   | (refine br_bne (fun _ => ?_) (fun _ => ?_) <;> first | (exfalso; omega) | contradiction | conv => whnf)
   | (refine br_beq (fun _ => ?_) (fun _ => ?_) <;> first | (exfalso; omega) | contradiction | conv => whnf))
  refine Hand.mk [] ?_
  try (conv => whnf)
  refine CallW.d (cs1) ?_
  try (conv => whnf)
  repeat (first
   | (refine Need.mk ?_ ?_; (focus ((show rechs _ _ _ _; (conv => whnf); (repeat (first | (refine Need.mk ?_ ?_; (focus (first | with_reducible rfl | omega | (simp; done) | rfl)); conv => whnf) | (refine Pick.mk ?_ ?_ ?_; rotate_left; (focus (first | with_reducible exact xor_u8 _ _ | (with_reducible refine xor_i64 ?_ ?_; all_goals omega) | (with_reducible refine xor_u32 ?_ ?_; all_goals omega) | exact hj1 | exact sl_opsP hps (by omega) | exact hz | with_reducible exact arC_last _ _ | exact arC_set h25 _ | assumption | with_reducible exact set_byN _ _ _ _ | with_reducible exact set_byI _ _ _ _ | with_reducible exact set_inN _ _ _ _ | with_reducible exact set_inI _ _ _ _ | with_reducible exact set_stN _ _ _ _ | with_reducible exact set_tsN _ _ _ _ | with_reducible exact set_tsI _ _ _ _ | with_reducible exact set_boN _ _ _ _ | with_reducible exact set_boI _ _ _ _ | (with_reducible refine get_mapN _ _ _ ?_; first | omega | (simp; omega)) | (with_reducible refine get_mapI _ _ _ ?_ ?_ <;> first | omega | (simp; omega)) | exact bs_beq _ _ | exact bs_less _ _ | exact bs_leq _ _ | with_reducible exact bs_app _ _ | (refine bs_get _ _ ?_; omega) | (refine bs_int _ _ ?_ ?_ <;> omega) | with_reducible exact sl_map0 _ _ _ | with_reducible exact sl_mapN _ _ _ | with_reducible exact sl_map _ _ _ _ | exact bs_extract0 _ _ | exact bs_extractN _ _ | exact bs_extract _ _ _ | (refine bnd_id ?_; omega) | (refine bnd_sub ?_ ?_ <;> omega) | (refine bnd_add ?_; omega) | (refine bnd_subN ?_ ?_ <;> omega) | (refine bnd_int ?_ ?_ <;> omega) | ((show @Eq Nat (_ + Int.toNat _ * _) _); simp only [Int.toNat_natCast, Nat.zero_add, Nat.mul_one]; rfl) | ((show @Eq (List _) (List.set [_] _ _) _); simp only [List.set_cons_zero]; rfl) | exact List.length_map _ | exact size_bs _ | (simp only [List.length_map, List.length_append, List.length_cons, List.length_nil, List.length_replicate, Nat.zero_add]; rfl) | with_reducible exact List.nil_append _ | with_reducible exact map_app _ _ _ | exact map_snoc byD _ _ | exact map_snoc inD _ _ | exact map_snoc stD _ _ | exact map_snoc tsD _ _ | (simp only [chunks]; rfl) | (refine wid ?_ ?_ <;> omega) | exact wby _ | with_reducible exact wby32 _ | with_reducible exact wu32 _ | exact wby64 _ | exact shr8 _ | exact shr16 _ | exact shr24 _ | exact shr32 _ | (refine tmodn ?_; omega) | (refine wdiv ?_ ?_ ?_ <;> omega) | exact wbyte _ | exact natlit _ | exact rep_by _ | exact rep_in _ | exact rep_bo _ | exact rep_st _ | (refine pick_nat _ _ _ ?_; omega) | (refine pick_int _ _ _ ?_ ?_ <;> omega) | (refine SlOf.full ?_; first | (simp; done) | (simp; omega)) | (with_reducible refine SlOf.pre _ _ ?_; first | omega | (simp; omega)) | (refine SlF.self _ _ ?_ ?_; (first | rfl | omega | (simp; done) | (simp; omega)); (exact fun _ => rfl)) | (refine SlF.pre _ _ ?_ ?_; (first | omega | (simp; omega)); (exact fun _ => rfl)) | (refine SlF.same ?_ ?_; (first | rfl | omega | (simp; done) | (simp; omega)); (first | exact fz_self _ _ (fun _ => rfl) | exact fz_pl rfl | (refine Fz.append ?_ ?_ <;> first | exact fz_self _ _ (fun _ => rfl) | exact fz_pl rfl) | (refine Fz.append (Fz.append ?_ ?_) ?_ <;> first | exact fz_self _ _ (fun _ => rfl) | exact fz_pl rfl))) | (simp only [Int.toNat_natCast, Nat.zero_add, Nat.mul_one]; rfl) | ((show @Eq (Option CV) _ _); rfl) | ((fail_if_success (show @Eq (Option _) _ _)); rfl) | ((show @Eq (Option _) _ _); simp only [List.getElem?_cons_zero, List.getElem?_cons_succ]; done) | ((show @Eq (Option _) _ _); simp only [List.getElem?_cons_zero, List.getElem?_cons_succ]; rfl) | with_reducible rfl)); conv => whnf))); exact Done.mk trivial))); conv => whnf)
   | (refine Pick.mk ?_ ?_ ?_; rotate_left; (focus ((refine wid ?_ ?_ <;> omega))); conv => whnf))
  refine Hand.mk [] ?_
  try (conv => whnf)
  refine CallW.d (i_append4_nil (sumH 2166136261 (l.take (l.length - 4))) (by omega) (by omega)) ?_
  try (conv => whnf)
  repeat (first
   | (refine Need.mk ?_ ?_; (focus ((show rechs _ _ _ _; (conv => whnf); (repeat (first | (refine Need.mk ?_ ?_; (focus (first | with_reducible rfl | omega | (simp; done) | rfl)); conv => whnf) | (refine Pick.mk ?_ ?_ ?_; rotate_left; (focus (first | with_reducible exact xor_u8 _ _ | (with_reducible refine xor_i64 ?_ ?_; all_goals omega) | (with_reducible refine xor_u32 ?_ ?_; all_goals omega) | exact hj1 | exact sl_opsP hps (by omega) | exact hz | with_reducible exact arC_last _ _ | exact arC_set h25 _ | assumption | with_reducible exact set_byN _ _ _ _ | with_reducible exact set_byI _ _ _ _ | with_reducible exact set_inN _ _ _ _ | with_reducible exact set_inI _ _ _ _ | with_reducible exact set_stN _ _ _ _ | with_reducible exact set_tsN _ _ _ _ | with_reducible exact set_tsI _ _ _ _ | with_reducible exact set_boN _ _ _ _ | with_reducible exact set_boI _ _ _ _ | (with_reducible refine get_mapN _ _ _ ?_; first | omega | (simp; omega)) | (with_reducible refine get_mapI _ _ _ ?_ ?_ <;> first | omega | (simp; omega)) | exact bs_beq _ _ | exact bs_less _ _ | exact bs_leq _ _ | with_reducible exact bs_app _ _ | (refine bs_get _ _ ?_; omega) | (refine bs_int _ _ ?_ ?_ <;> omega) | with_reducible exact sl_map0 _ _ _ | with_reducible exact sl_mapN _ _ _ | with_reducible exact sl_map _ _ _ _ | exact bs_extract0 _ _ | exact bs_extractN _ _ | exact bs_extract _ _ _ | (refine bnd_id ?_; omega) | (refine bnd_sub ?_ ?_ <;> omega) | (refine bnd_add ?_; omega) | (refine bnd_subN ?_ ?_ <;> omega) | (refine bnd_int ?_ ?_ <;> omega) | ((show @Eq Nat (_ + Int.toNat _ * _) _); simp only [Int.toNat_natCast, Nat.zero_add, Nat.mul_one]; rfl) | ((show @Eq (List _) (List.set [_] _ _) _); simp only [List.set_cons_zero]; rfl) | exact List.length_map _ | exact size_bs _ | (simp only [List.length_map, List.length_append, List.length_cons, List.length_nil, List.length_replicate, Nat.zero_add]; rfl) | with_reducible exact List.nil_append _ | with_reducible exact map_app _ _ _ | exact map_snoc byD _ _ | exact map_snoc inD _ _ | exact map_snoc stD _ _ | exact map_snoc tsD _ _ | (simp only [chunks]; rfl) | (refine wid ?_ ?_ <;> omega) | exact wby _ | with_reducible exact wby32 _ | with_reducible exact wu32 _ | exact wby64 _ | exact shr8 _ | exact shr16 _ | exact shr24 _ | exact shr32 _ | (refine tmodn ?_; omega) | (refine wdiv ?_ ?_ ?_ <;> omega) | exact wbyte _ | exact natlit _ | exact rep_by _ | exact rep_in _ | exact rep_bo _ | exact rep_st _ | (refine pick_nat _ _ _ ?_; omega) | (refine pick_int _ _ _ ?_ ?_ <;> omega) | (refine SlOf.full ?_; first | (simp; done) | (simp; omega)) | (with_reducible refine SlOf.pre _ _ ?_; first | omega | (simp; omega)) | (refine SlF.self _ _ ?_ ?_; (first | rfl | omega | (simp; done) | (simp; omega)); (exact fun _ => rfl)) | (refine SlF.pre _ _ ?_ ?_; (first | omega | (simp; omega)); (exact fun _ => rfl)) | (refine SlF.same ?_ ?_; (first | rfl | omega | (simp; done) | (simp; omega)); (first | exact fz_self _ _ (fun _ => rfl) | exact fz_pl rfl | (refine Fz.append ?_ ?_ <;> first | exact fz_self _ _ (fun _ => rfl) | exact fz_pl rfl) | (refine Fz.append (Fz.append ?_ ?_) ?_ <;> first | exact fz_self _ _ (fun _ => rfl) | exact fz_pl rfl))) | (simp only [Int.toNat_natCast, Nat.zero_add, Nat.mul_one]; rfl) | ((show @Eq (Option CV) _ _); rfl) | ((fail_if_success (show @Eq (Option _) _ _)); rfl) | ((show @Eq (Option _) _ _); simp only [List.getElem?_cons_zero, List.getElem?_cons_succ]; done) | ((show @Eq (Option _) _ _); simp only [List.getElem?_cons_zero, List.getElem?_cons_succ]; rfl) | with_reducible rfl)); conv => whnf))); exact Done.mk trivial))); conv => whnf)
   | (refine Pick.mk ?_ ?_ ?_; rotate_left; (focus (first | exact bs_beq _ _ | (refine SlOf.full ?_; first | (simp; done) | (simp; omega)))); conv => whnf))
  try (conv => whnf)
  repeat' (first
   | (refine br_dec (fun _ => ?_) (fun _ => ?_) <;> first | (exfalso; omega) | contradiction | conv => whnf)
   | (refine br_not ?_; conv => whnf)
   | (refine br_bne (fun _ => ?_) (fun _ => ?_) <;> first | (exfalso; omega) | contradiction | conv => whnf)
   | (refine br_beq (fun _ => ?_) (fun _ => ?_) <;> first | (exfalso; omega) | contradiction | conv => whnf))
  refine Out.mk false [0, 1, 2, 3, 4] [(0, 12)] ?_
  try (conv => whnf)
  repeat (refine Need.mk ?_ ?_; (focus ((first | exact flat_by _ | exact flat_in _ | exact flat_st _ | exact flat_ts _ | exact flat_bo _ | exact flat_cl rfl))); conv => whnf)
  exact ⟨⟨[], 10, rl_sum hlong (.inr hs), by simp, rfl, rfl⟩⟩
 have hD4 : (l.drop (l.length - 4)).length = 4 := by simp; omega
 obtain ⟨D, hD⟩ : ∃ D, D = l.drop (l.length - 4) := ⟨_, rfl⟩
 obtain ⟨b, hb⟩ : ∃ b, b = l.take (l.length - 4) := ⟨_, rfl⟩
 have hbl : b.length = l.length - 4 := by rw [hb]; simp
 try (conv => whnf)
 repeat' (first
  | (refine br_dec (fun _ => ?_) (fun _ => ?_) <;> first | (exfalso; omega) | contradiction | conv => whnf)
  | (refine br_not ?_; conv => whnf)
  | (refine br_bne (fun _ => ?_) (fun _ => ?_) <;> first | (exfalso; omega) | contradiction | conv => whnf)
  | (refine br_beq (fun _ => ?_) (fun _ => ?_) <;> first | (exfalso; omega) | contradiction | conv => whnf))
 refine Hand.mk [] ?_
 try (conv => whnf)
 refine CallW.d (cs1) ?_
 try (conv => whnf)
 repeat (first
  | (refine Need.mk ?_ ?_; (focus ((show rechs _ _ _ _; (conv => whnf); (repeat (first | (refine Need.mk ?_ ?_; (focus (first | with_reducible rfl | omega | (simp; done) | rfl)); conv => whnf) | (refine Pick.mk ?_ ?_ ?_; rotate_left; (focus (first | with_reducible exact xor_u8 _ _ | (with_reducible refine xor_i64 ?_ ?_; all_goals omega) | (with_reducible refine xor_u32 ?_ ?_; all_goals omega) | exact hj1 | exact sl_opsP hps (by omega) | exact hz | with_reducible exact arC_last _ _ | exact arC_set h25 _ | assumption | with_reducible exact set_byN _ _ _ _ | with_reducible exact set_byI _ _ _ _ | with_reducible exact set_inN _ _ _ _ | with_reducible exact set_inI _ _ _ _ | with_reducible exact set_stN _ _ _ _ | with_reducible exact set_tsN _ _ _ _ | with_reducible exact set_tsI _ _ _ _ | with_reducible exact set_boN _ _ _ _ | with_reducible exact set_boI _ _ _ _ | (with_reducible refine get_mapN _ _ _ ?_; first | omega | (simp; omega)) | (with_reducible refine get_mapI _ _ _ ?_ ?_ <;> first | omega | (simp; omega)) | exact bs_beq _ _ | exact bs_less _ _ | exact bs_leq _ _ | with_reducible exact bs_app _ _ | (refine bs_get _ _ ?_; omega) | (refine bs_int _ _ ?_ ?_ <;> omega) | with_reducible exact sl_map0 _ _ _ | with_reducible exact sl_mapN _ _ _ | with_reducible exact sl_map _ _ _ _ | exact bs_extract0 _ _ | exact bs_extractN _ _ | exact bs_extract _ _ _ | (refine bnd_id ?_; omega) | (refine bnd_sub ?_ ?_ <;> omega) | (refine bnd_add ?_; omega) | (refine bnd_subN ?_ ?_ <;> omega) | (refine bnd_int ?_ ?_ <;> omega) | ((show @Eq Nat (_ + Int.toNat _ * _) _); simp only [Int.toNat_natCast, Nat.zero_add, Nat.mul_one]; rfl) | ((show @Eq (List _) (List.set [_] _ _) _); simp only [List.set_cons_zero]; rfl) | exact List.length_map _ | exact size_bs _ | (simp only [List.length_map, List.length_append, List.length_cons, List.length_nil, List.length_replicate, Nat.zero_add]; rfl) | with_reducible exact List.nil_append _ | with_reducible exact map_app _ _ _ | exact map_snoc byD _ _ | exact map_snoc inD _ _ | exact map_snoc stD _ _ | exact map_snoc tsD _ _ | (simp only [chunks]; rfl) | (refine wid ?_ ?_ <;> omega) | exact wby _ | with_reducible exact wby32 _ | with_reducible exact wu32 _ | exact wby64 _ | exact shr8 _ | exact shr16 _ | exact shr24 _ | exact shr32 _ | (refine tmodn ?_; omega) | (refine wdiv ?_ ?_ ?_ <;> omega) | exact wbyte _ | exact natlit _ | exact rep_by _ | exact rep_in _ | exact rep_bo _ | exact rep_st _ | (refine pick_nat _ _ _ ?_; omega) | (refine pick_int _ _ _ ?_ ?_ <;> omega) | (refine SlOf.full ?_; first | (simp; done) | (simp; omega)) | (with_reducible refine SlOf.pre _ _ ?_; first | omega | (simp; omega)) | (refine SlF.self _ _ ?_ ?_; (first | rfl | omega | (simp; done) | (simp; omega)); (exact fun _ => rfl)) | (refine SlF.pre _ _ ?_ ?_; (first | omega | (simp; omega)); (exact fun _ => rfl)) | (refine SlF.same ?_ ?_; (first | rfl | omega | (simp; done) | (simp; omega)); (first | exact fz_self _ _ (fun _ => rfl) | exact fz_pl rfl | (refine Fz.append ?_ ?_ <;> first | exact fz_self _ _ (fun _ => rfl) | exact fz_pl rfl) | (refine Fz.append (Fz.append ?_ ?_) ?_ <;> first | exact fz_self _ _ (fun _ => rfl) | exact fz_pl rfl))) | (simp only [Int.toNat_natCast, Nat.zero_add, Nat.mul_one]; rfl) | ((show @Eq (Option CV) _ _); rfl) | ((fail_if_success (show @Eq (Option _) _ _)); rfl) | ((show @Eq (Option _) _ _); simp only [List.getElem?_cons_zero, List.getElem?_cons_succ]; done) | ((show @Eq (Option _) _ _); simp only [List.getElem?_cons_zero, List.getElem?_cons_succ]; rfl) | with_reducible rfl)); conv => whnf))); exact Done.mk trivial))); conv => whnf)
  | (refine Pick.mk ?_ ?_ ?_; rotate_left; (focus ((refine wid ?_ ?_ <;> omega))); conv => whnf))
 refine Hand.mk [] ?_
 try (conv => whnf)
 refine CallW.d (i_append4_nil (sumH 2166136261 (l.take (l.length - 4))) (by omega) (by omega)) ?_
 try (conv => whnf)
 repeat (first
  | (refine Need.mk ?_ ?_; (focus ((show rechs _ _ _ _; (conv => whnf); (repeat (first | (refine Need.mk ?_ ?_; (focus (first | with_reducible rfl | omega | (simp; done) | rfl)); conv => whnf) | (refine Pick.mk ?_ ?_ ?_; rotate_left; (focus (first | with_reducible exact xor_u8 _ _ | (with_reducible refine xor_i64 ?_ ?_; all_goals omega) | (with_reducible refine xor_u32 ?_ ?_; all_goals omega) | exact hj1 | exact sl_opsP hps (by omega) | exact hz | with_reducible exact arC_last _ _ | exact arC_set h25 _ | assumption | with_reducible exact set_byN _ _ _ _ | with_reducible exact set_byI _ _ _ _ | with_reducible exact set_inN _ _ _ _ | with_reducible exact set_inI _ _ _ _ | with_reducible exact set_stN _ _ _ _ | with_reducible exact set_tsN _ _ _ _ | with_reducible exact set_tsI _ _ _ _ | with_reducible exact set_boN _ _ _ _ | with_reducible exact set_boI _ _ _ _ | (with_reducible refine get_mapN _ _ _ ?_; first | omega | (simp; omega)) | (with_reducible refine get_mapI _ _ _ ?_ ?_ <;> first | omega | (simp; omega)) | exact bs_beq _ _ | exact bs_less _ _ | exact bs_leq _ _ | with_reducible exact bs_app _ _ | (refine bs_get _ _ ?_; omega) | (refine bs_int _ _ ?_ ?_ <;> omega) | with_reducible exact sl_map0 _ _ _ | with_reducible exact sl_mapN _ _ _ | with_reducible exact sl_map _ _ _ _ | exact bs_extract0 _ _ | exact bs_extractN _ _ | exact bs_extract _ _ _ | (refine bnd_id ?_; omega) | (refine bnd_sub ?_ ?_ <;> omega) | (refine bnd_add ?_; omega) | (refine bnd_subN ?_ ?_ <;> omega) | (refine bnd_int ?_ ?_ <;> omega) | ((show @Eq Nat (_ + Int.toNat _ * _) _); simp only [Int.toNat_natCast, Nat.zero_add, Nat.mul_one]; rfl) | ((show @Eq (List _) (List.set [_] _ _) _); simp only [List.set_cons_zero]; rfl) | exact List.length_map _ | exact size_bs _ | (simp only [List.length_map, List.length_append, List.length_cons, List.length_nil, List.length_replicate, Nat.zero_add]; rfl) | with_reducible exact List.nil_append _ | with_reducible exact map_app _ _ _ | exact map_snoc byD _ _ | exact map_snoc inD _ _ | exact map_snoc stD _ _ | exact map_snoc tsD _ _ | (simp only [chunks]; rfl) | (refine wid ?_ ?_ <;> omega) | exact wby _ | with_reducible exact wby32 _ | with_reducible exact wu32 _ | exact wby64 _ | exact shr8 _ | exact shr16 _ | exact shr24 _ | exact shr32 _ | (refine tmodn ?_; omega) | (refine wdiv ?_ ?_ ?_ <;> omega) | exact wbyte _ | exact natlit _ | exact rep_by _ | exact rep_in _ | exact rep_bo _ | exact rep_st _ | (refine pick_nat _ _ _ ?_; omega) | (refine pick_int _ _ _ ?_ ?_ <;> omega) | (refine SlOf.full ?_; first | (simp; done) | (simp; omega)) | (with_reducible refine SlOf.pre _ _ ?_; first | omega | (simp; omega)) | (refine SlF.self _ _ ?_ ?_; (first | rfl | omega | (simp; done) | (simp; omega)); (exact fun _ => rfl)) | (refine SlF.pre _ _ ?_ ?_; (first | omega | (simp; omega)); (exact fun _ => rfl)) | (refine SlF.same ?_ ?_; (first | rfl | omega | (simp; done) | (simp; omega)); (first | exact fz_self _ _ (fun _ => rfl) | exact fz_pl rfl | (refine Fz.append ?_ ?_ <;> first | exact fz_self _ _ (fun _ => rfl) | exact fz_pl rfl) | (refine Fz.append (Fz.append ?_ ?_) ?_ <;> first | exact fz_self _ _ (fun _ => rfl) | exact fz_pl rfl))) | (simp only [Int.toNat_natCast, Nat.zero_add, Nat.mul_one]; rfl) | ((show @Eq (Option CV) _ _); rfl) | ((fail_if_success (show @Eq (Option _) _ _)); rfl) | ((show @Eq (Option _) _ _); simp only [List.getElem?_cons_zero, List.getElem?_cons_succ]; done) | ((show @Eq (Option _) _ _); simp only [List.getElem?_cons_zero, List.getElem?_cons_succ]; rfl) | with_reducible rfl)); conv => whnf))); exact Done.mk trivial))); conv => whnf)
  | (refine Pick.mk ?_ ?_ ?_; rotate_left; (focus (first | exact bs_beq _ _ | (refine SlOf.full ?_; first | (simp; done) | (simp; omega)))); conv => whnf))
 try (conv => whnf)
 repeat' (first
  | (refine Need.mk ?_ ?_; (focus ((simp; done))); conv => whnf)
  | (refine Pick.mk ?_ ?_ ?_; rotate_left; (focus (first | with_reducible exact sl_map0 _ _ _ | (refine bnd_sub ?_ ?_ <;> omega) | exact List.length_map _)); conv => whnf)
  | (refine br_dec (fun _ => ?_) (fun _ => ?_) <;> first | (exfalso; omega) | contradiction | conv => whnf)
  | (refine br_not ?_; conv => whnf)
  | (refine br_bne (fun _ => ?_) (fun _ => ?_) <;> first | (exfalso; omega) | contradiction | conv => whnf)
  | (refine br_beq (fun _ => ?_) (fun _ => ?_) <;> first | (exfalso; omega) | contradiction | conv => whnf))
 have hNo : NoLog b → NoLog (l.take (l.length - 4)) := fun h => by rw [← hb]; exact h
 refine LoopE.mk (fun x : List (List Int) × Nat => mk [(0, vY l), (4, vI .i64 b.length), (5, .one (.ptr 28736 0)), (6, .one (.ep (.v 32768) 25 0 0)), (41, vI .i64 x.1.length)] [(28736, rdR b x.2 false), (32768, .own 25 [arC x.1])])
  (fun x => (x.1.length ≤ 25 ∧ x.2 ≤ b.length) ∧ Thru b x.1 x.2 ∧ ColsAt b x.1 x.2 ∧ (∀ c ∈ x.1, ∀ d ∈ x.1, c.length = d.length) ∧ ∀ c ∈ x.1, c.length ≤ 4096) (fun x => 25 - x.1.length) ([], 0) ⟨by simp, thru_nil _, colsAt_nil _, by simp, by simp⟩ (LeX.of ?_) ?_
 ·try (conv => whnf)
  repeat (refine Need.mk ?_ ?_; (focus (first | omega | (simp only [List.length_map, List.length_append, List.length_cons, List.length_nil, List.length_replicate]; omega) | (simp; done))); conv => whnf)
  refine Need.mk (by rw [hb]) ?_
  try (conv => whnf)
  repeat (refine Need.mk ?_ ?_; (focus (first | omega | rfl)); conv => whnf)
  trivial
 ·rintro ⟨cs, a⟩ ⟨⟨h1, h2⟩, h3, h5, h6, h7⟩
  dsimp only at h1 h2 h3 h5 h6 h7 ⊢
  by_cases h25 : cs.length < 25
  ·try (conv => whnf)
   repeat' (first
    | (refine SeqJ.thru ?_; conv => whnf)
    | (refine br_dec (fun _ => ?_) (fun _ => ?_) <;> first | (exfalso; omega) | contradiction | conv => whnf)
    | (refine br_not ?_; conv => whnf)
    | (refine br_bne (fun _ => ?_) (fun _ => ?_) <;> first | (exfalso; omega) | contradiction | conv => whnf)
    | (refine br_beq (fun _ => ?_) (fun _ => ?_) <;> first | (exfalso; omega) | contradiction | conv => whnf))
   refine Hand.mk [] ?_
   try (conv => whnf)
   refine CallW.n (i_runs b a (by omega) h2) ?_
   rintro _ _ ⟨a', bad, xs, rfl, rfl, ha', hx⟩
   cases hr : getR b a with
   | none =>
    rw [hr] at hx
    dsimp only at hx
    subst hx
    try (conv => whnf)
    repeat (first
     | (refine Need.mk ?_ ?_; (focus (first | omega | (simp only [List.length_map, List.length_append, List.length_cons, List.length_nil, List.length_replicate]; omega) | (simp; done) | (first | exact fz_self _ _ (fun _ => rfl) | exact fz_pl rfl | (refine Fz.append ?_ ?_ <;> first | exact fz_self _ _ (fun _ => rfl) | exact fz_pl rfl) | (refine Fz.append (Fz.append ?_ ?_) ?_ <;> first | exact fz_self _ _ (fun _ => rfl) | exact fz_pl rfl)))); conv => whnf)
     | (refine Pick.mk ?_ ?_ ?_; rotate_left; (focus (first | exact arC_set h25 _ | ((show @Eq Nat (_ + Int.toNat _ * _) _); simp only [Int.toNat_natCast, Nat.zero_add, Nat.mul_one]; rfl) | ((show @Eq (Option _) _ _); simp only [List.getElem?_cons_zero, List.getElem?_cons_succ]; rfl))); conv => whnf)
     | (refine OwnQ.mk true ?_; conv => whnf))
    refine Out.mk false [0, 1, 2, 3, 4] [(0, 12)] ?_
    try (conv => whnf)
    repeat (refine Need.mk ?_ ?_; (focus ((first | exact flat_by _ | exact flat_in _ | exact flat_st _ | exact flat_ts _ | exact flat_bo _ | exact flat_cl rfl))); conv => whnf)
    exact ⟨⟨[], 3, rl_form hlong h4 hs (hNo (thru_none h3 h25 hr)), by simp, rfl, rfl⟩⟩
   | some r =>
    obtain ⟨ys, c⟩ := r
    rw [hr] at hx
    dsimp only at hx
    obtain ⟨rfl, rfl, rfl⟩ := hx
    obtain ⟨y, rest, hy⟩ : ∃ y rest, cs ++ [xs] = y :: rest := by
     cases cs with
     | nil => exact ⟨xs, [], rfl⟩
     | cons y cs => exact ⟨y, cs ++ [xs], rfl⟩
    have hz := arC_first y rest
    rw [← hy] at hz
    have h3' := thru_snoc h3 h25 hr
    have h5' := colsAt_snoc h5 hr
    have hg := getR_inv hr
    have h7' : ∀ c ∈ cs ++ [xs], c.length ≤ 4096 := fun c hc => by
     rcases List.mem_append.1 hc with hc | hc
     ·exact h7 c hc
     ·simp only [List.mem_singleton] at hc; subst hc; exact hg.2.2.2.2
    have hym : y ∈ cs ++ [xs] := by rw [hy]; simp
    have hyl := h7' y hym
    have hxl := hg.2.2.2.2
    by_cases hl2 : xs.length = y.length
    ·try (conv => whnf)
     repeat' (first
      | (refine Need.mk ?_ ?_; (focus (first | omega | (simp only [List.length_map, List.length_append, List.length_cons, List.length_nil, List.length_replicate]; omega) | (simp; done) | (first | exact fz_self _ _ (fun _ => rfl) | exact fz_pl rfl | (refine Fz.append ?_ ?_ <;> first | exact fz_self _ _ (fun _ => rfl) | exact fz_pl rfl) | (refine Fz.append (Fz.append ?_ ?_) ?_ <;> first | exact fz_self _ _ (fun _ => rfl) | exact fz_pl rfl)))); conv => whnf)
      | (refine Pick.mk ?_ ?_ ?_; rotate_left; (focus (first | exact hz | with_reducible exact arC_last _ _ | exact arC_set h25 _ | ((show @Eq Nat (_ + Int.toNat _ * _) _); simp only [Int.toNat_natCast, Nat.zero_add, Nat.mul_one]; rfl) | (refine wid ?_ ?_ <;> omega) | ((show @Eq (Option _) _ _); simp only [List.getElem?_cons_zero, List.getElem?_cons_succ]; rfl))); conv => whnf)
      | (refine OwnQ.mk true ?_; conv => whnf)
      | (refine br_dec (fun _ => ?_) (fun _ => ?_) <;> first | (exfalso; omega) | contradiction | conv => whnf)
      | (refine br_not ?_; conv => whnf)
      | (refine br_bne (fun _ => ?_) (fun _ => ?_) <;> first | (exfalso; omega) | contradiction | conv => whnf)
      | (refine br_beq (fun _ => ?_) (fun _ => ?_) <;> first | (exfalso; omega) | contradiction | conv => whnf))
     have h6' : ∀ c ∈ cs ++ [xs], c.length = y.length := fun c hc => by
      cases cs with
      | nil => simp at hy hc; rw [hc, hy.1]
      | cons z cs =>
       simp only [List.cons_append, List.cons.injEq] at hy
       obtain ⟨rfl, _⟩ := hy
       rcases List.mem_append.1 hc with hc | hc
       ·exact h6 c hc z (by simp)
       ·simp only [List.mem_singleton] at hc; subst hc; exact hl2
     refine Pick.mk (cs ++ [xs], a') ⟨⟨⟨by simp; omega, ha'⟩, h3', h5', fun c hc d hd => by rw [h6' c hc, h6' d hd], h7'⟩, by simp; omega⟩ (LeX.of ?_)
     try (conv => whnf)
     repeat (refine Need.mk ?_ ?_; (focus (first | omega | (simp only [List.length_map, List.length_append, List.length_cons, List.length_nil, List.length_replicate]; omega) | (simp; done) | rfl)); conv => whnf)
     trivial
    ·try (conv => whnf)
     repeat' (first
      | (refine Need.mk ?_ ?_; (focus (first | omega | (simp only [List.length_map, List.length_append, List.length_cons, List.length_nil, List.length_replicate]; omega) | (simp; done) | (first | exact fz_self _ _ (fun _ => rfl) | exact fz_pl rfl | (refine Fz.append ?_ ?_ <;> first | exact fz_self _ _ (fun _ => rfl) | exact fz_pl rfl) | (refine Fz.append (Fz.append ?_ ?_) ?_ <;> first | exact fz_self _ _ (fun _ => rfl) | exact fz_pl rfl)))); conv => whnf)
      | (refine Pick.mk ?_ ?_ ?_; rotate_left; (focus (first | exact hz | with_reducible exact arC_last _ _ | exact arC_set h25 _ | ((show @Eq Nat (_ + Int.toNat _ * _) _); simp only [Int.toNat_natCast, Nat.zero_add, Nat.mul_one]; rfl) | ((show @Eq (Option _) _ _); simp only [List.getElem?_cons_zero, List.getElem?_cons_succ]; rfl))); conv => whnf)
      | (refine OwnQ.mk true ?_; conv => whnf)
      | (refine br_dec (fun _ => ?_) (fun _ => ?_) <;> first | (exfalso; omega) | contradiction | conv => whnf)
      | (refine br_not ?_; conv => whnf)
      | (refine br_bne (fun _ => ?_) (fun _ => ?_) <;> first | (exfalso; omega) | contradiction | conv => whnf)
      | (refine br_beq (fun _ => ?_) (fun _ => ?_) <;> first | (exfalso; omega) | contradiction | conv => whnf))
     refine Out.mk false [0, 1, 2, 3, 4] [(0, 12)] ?_
     try (conv => whnf)
     repeat (refine Need.mk ?_ ?_; (focus ((first | exact flat_by _ | exact flat_in _ | exact flat_st _ | exact flat_ts _ | exact flat_bo _ | exact flat_cl rfl))); conv => whnf)
     exact ⟨⟨[], 3, rl_form hlong h4 hs (hNo (thru_len h3' ⟨xs, by simp, y, hym, hl2⟩)), by simp, rfl, rfl⟩⟩
  ·have hc25 : cs.length = 25 := by omega
   obtain ⟨y, rest, hy⟩ : ∃ y rest, cs = y :: rest := by
    cases cs with
    | nil => simp at hc25
    | cons y cs => exact ⟨y, cs, rfl⟩
   have hz := arC_first y rest
   rw [← hy] at hz
   have hyl := h7 y (by rw [hy]; simp)
   try (conv => whnf)
   repeat' (first
    | (refine SeqJ.thru ?_; conv => whnf)
    | (refine br_dec (fun _ => ?_) (fun _ => ?_) <;> first | (exfalso; omega) | contradiction | conv => whnf)
    | (refine br_not ?_; conv => whnf)
    | (refine br_bne (fun _ => ?_) (fun _ => ?_) <;> first | (exfalso; omega) | contradiction | conv => whnf)
    | (refine br_beq (fun _ => ?_) (fun _ => ?_) <;> first | (exfalso; omega) | contradiction | conv => whnf))
   refine Hand.mk [] ?_
   try (conv => whnf)
   refine CallW.n (i_texts b a (by omega) h2) ?_
   rintro _ _ ⟨d, bad, ks, rfl, rfl, hd, hk⟩
   cases hr : getT b a with
   | none =>
    rw [hr] at hk
    dsimp only at hk
    subst hk
    try (conv => whnf)
    refine Hand.mk [] ?_
    try (conv => whnf)
    refine CallW.n (i_textsB (by omega) hd) ?_
    rintro _ _ ⟨e, rfl, rfl, he⟩
    try (conv => whnf)
    repeat' (first
     | (refine Need.mk ?_ ?_; (focus (omega)); conv => whnf)
     | (refine Pick.mk ?_ ?_ ?_; rotate_left; (focus (first | exact hz | ((show @Eq Nat (_ + Int.toNat _ * _) _); simp only [Int.toNat_natCast, Nat.zero_add, Nat.mul_one]; rfl) | ((show @Eq (Option _) _ _); simp only [List.getElem?_cons_zero, List.getElem?_cons_succ]; rfl))); conv => whnf)
     | (refine SeqJ.thru ?_; conv => whnf)
     | (refine br_dec (fun _ => ?_) (fun _ => ?_) <;> first | (exfalso; omega) | contradiction | conv => whnf)
     | (refine br_not ?_; conv => whnf)
     | (refine br_bne (fun _ => ?_) (fun _ => ?_) <;> first | (exfalso; omega) | contradiction | conv => whnf)
     | (refine br_beq (fun _ => ?_) (fun _ => ?_) <;> first | (exfalso; omega) | contradiction | conv => whnf))
    refine Out.mk false [0, 1, 2, 3, 4] [(0, 12)] ?_
    try (conv => whnf)
    repeat (refine Need.mk ?_ ?_; (focus ((first | exact flat_by _ | exact flat_in _ | exact flat_st _ | exact flat_ts _ | exact flat_bo _ | exact flat_cl rfl))); conv => whnf)
    exact ⟨⟨[], 3, rl_form hlong h4 hs (hNo (thru_keys_none h3 hc25 hr)), by simp, rfl, rfl⟩⟩
   | some r =>
    obtain ⟨us, d'⟩ := r
    rw [hr] at hk
    dsimp only at hk
    obtain ⟨rfl, rfl, rfl⟩ := hk
    try (conv => whnf)
    refine Hand.mk [] ?_
    try (conv => whnf)
    refine CallW.n (i_texts b d (by omega) hd) ?_
    rintro _ _ ⟨e, bad, ts, rfl, rfl, he, ht⟩
    cases hr2 : getT b d with
    | none =>
     rw [hr2] at ht
     dsimp only at ht
     subst ht
     try (conv => whnf)
     repeat' (first
      | (refine Need.mk ?_ ?_; (focus (omega)); conv => whnf)
      | (refine Pick.mk ?_ ?_ ?_; rotate_left; (focus (first | exact hz | ((show @Eq Nat (_ + Int.toNat _ * _) _); simp only [Int.toNat_natCast, Nat.zero_add, Nat.mul_one]; rfl) | ((show @Eq (Option _) _ _); simp only [List.getElem?_cons_zero, List.getElem?_cons_succ]; rfl))); conv => whnf)
      | (refine SeqJ.thru ?_; conv => whnf)
      | (refine br_dec (fun _ => ?_) (fun _ => ?_) <;> first | (exfalso; omega) | contradiction | conv => whnf)
      | (refine br_not ?_; conv => whnf)
      | (refine br_bne (fun _ => ?_) (fun _ => ?_) <;> first | (exfalso; omega) | contradiction | conv => whnf)
      | (refine br_beq (fun _ => ?_) (fun _ => ?_) <;> first | (exfalso; omega) | contradiction | conv => whnf))
     refine Out.mk false [0, 1, 2, 3, 4] [(0, 12)] ?_
     try (conv => whnf)
     repeat (refine Need.mk ?_ ?_; (focus ((first | exact flat_by _ | exact flat_in _ | exact flat_st _ | exact flat_ts _ | exact flat_bo _ | exact flat_cl rfl))); conv => whnf)
     exact ⟨⟨[], 3, rl_form hlong h4 hs (hNo (thru_texts_none h3 hc25 hr hr2)), by simp, rfl, rfl⟩⟩
    | some r =>
     obtain ⟨us, d'⟩ := r
     rw [hr2] at ht
     dsimp only at ht
     obtain ⟨rfl, rfl, rfl⟩ := ht
     have hend := fun L hL hl => thru_end h3 hc25 hr hr2 (L := L) hL hl
     by_cases hall : e = b.length ∧ ks.length = y.length ∧ ts.length = y.length
     rotate_left
     ·have hno : NoLog b := fun L hL hl => by
       obtain ⟨k1, k2, k3, k4, -⟩ := hend L hL hl
       have := k2 y (by rw [hy]; simp)
       exact hall ⟨k1, by omega, by omega⟩
      have hno2 : ¬ (e = b.length ∧ ks.length = y.length ∧ ts.length = y.length) → NoLog b := fun _ => hno
      try (conv => whnf)
      repeat' (first
       | (refine Need.mk ?_ ?_; (focus (omega)); conv => whnf)
       | (refine Pick.mk ?_ ?_ ?_; rotate_left; (focus (first | exact hz | ((show @Eq Nat (_ + Int.toNat _ * _) _); simp only [Int.toNat_natCast, Nat.zero_add, Nat.mul_one]; rfl) | ((show @Eq (Option _) _ _); simp only [List.getElem?_cons_zero, List.getElem?_cons_succ]; rfl))); conv => whnf)
       | (refine SeqJ.thru ?_; conv => whnf)
       | (refine br_dec (fun _ => ?_) (fun _ => ?_) <;> first | (exfalso; omega) | contradiction | conv => whnf)
       | (refine br_not ?_; conv => whnf)
       | (refine br_bne (fun _ => ?_) (fun _ => ?_) <;> first | (exfalso; omega) | contradiction | conv => whnf)
       | (refine br_beq (fun _ => ?_) (fun _ => ?_) <;> first | (exfalso; omega) | contradiction | conv => whnf))
      all_goals
       refine Out.mk false [0, 1, 2, 3, 4] [(0, 12)] ?_
       try (conv => whnf)
       repeat (refine Need.mk ?_ ?_; (focus ((first | exact flat_by _ | exact flat_in _ | exact flat_st _ | exact flat_ts _ | exact flat_bo _ | exact flat_cl rfl))); conv => whnf)
       exact ⟨⟨[], 3, rl_form hlong h4 hs (hNo hno), by simp, rfl, rfl⟩⟩
     ·obtain ⟨he2, hkl, htl⟩ := hall
      subst he2
      obtain ⟨n, hn⟩ : ∃ n, n = y.length := ⟨_, rfl⟩
      have hco : ColsOk cs n := ⟨hc25, fun c hc => ⟨by rw [hn]; exact h6 c hc y (by rw [hy]; simp), h5.2.2 c hc⟩⟩
      rw [← hn] at hkl htl hz hyl
      have htot := getT_inv hr
      have htot2 := getT_inv hr2
      simp only [MaxB] at htot htot2
      try (conv => whnf)
      repeat' (first
       | (refine Need.mk ?_ ?_; (focus (omega)); conv => whnf)
       | (refine Pick.mk ?_ ?_ ?_; rotate_left; (focus (first | exact hz | ((show @Eq Nat (_ + Int.toNat _ * _) _); simp only [Int.toNat_natCast, Nat.zero_add, Nat.mul_one]; rfl) | ((show @Eq (Option _) _ _); simp only [List.getElem?_cons_zero, List.getElem?_cons_succ]; rfl))); conv => whnf)
       | (refine SeqJ.thru ?_; conv => whnf)
       | (refine br_dec (fun _ => ?_) (fun _ => ?_) <;> first | (exfalso; omega) | contradiction | conv => whnf)
       | (refine br_not ?_; conv => whnf)
       | (refine br_bne (fun _ => ?_) (fun _ => ?_) <;> first | (exfalso; omega) | contradiction | conv => whnf)
       | (refine br_beq (fun _ => ?_) (fun _ => ?_) <;> first | (exfalso; omega) | contradiction | conv => whnf))
      refine LoopE.mk (fun x : Nat × List (List Int × OpV) => mk [(0, vY l), (6, .one (.ep (.v 32768) 25 0 0)), (8, .one (.os (.v 65536) 1 0 ks.length)), (9, .one (.os (.v 69632) 1 0 ts.length)), (10, vI .i64 n), (11, .one (.os (.v 5000) 12 0 x.2.length)), (12, vI .i64 x.1)] [(32768, .own 25 [arC cs]), (65536, .own 1 (ks.map tsD)), (69632, .own 1 (ts.map tsD)), (5000, .own 12 (x.2.map oP))])
       (fun x => x.1 ≤ n ∧ x.2.length = x.1 ∧ (∀ p ∈ x.2, goodP p) ∧ x.2.map (·.2) = logOf cs ks ts x.1) (fun x => n - x.1) (0, []) ⟨by simp, by simp, by simp, by simp [logOf]⟩ (LeX.of ?_) ?_
      ·try (conv => whnf)
       repeat (refine Need.mk ?_ ?_; (focus (first | omega | (simp; done))); conv => whnf)
       trivial
      ·rintro ⟨i, ps⟩ ⟨hi, hpl, hpg, hps⟩
       dsimp only at hi hpl hpg hps ⊢
       by_cases hin : i < n
       ·try (conv => whnf)
        repeat' (first
         | (refine Need.mk ?_ ?_; (focus (omega)); conv => whnf)
         | (refine Pick.mk ?_ ?_ ?_; rotate_left; (focus (first | (simp only [List.length_map, List.length_append, List.length_cons, List.length_nil, List.length_replicate, Nat.zero_add]; rfl) | exact natlit _)); conv => whnf)
         | (refine SeqJ.thru ?_; conv => whnf)
         | (refine br_dec (fun _ => ?_) (fun _ => ?_) <;> first | (exfalso; omega) | contradiction | conv => whnf)
         | (refine br_not ?_; conv => whnf)
         | (refine br_bne (fun _ => ?_) (fun _ => ?_) <;> first | (exfalso; omega) | contradiction | conv => whnf)
         | (refine br_beq (fun _ => ?_) (fun _ => ?_) <;> first | (exfalso; omega) | contradiction | conv => whnf))
        refine LoopE.mk (fun j : Nat => mk [(0, vY l), (6, .one (.ep (.v 32768) 25 0 0)), (8, .one (.os (.v 65536) 1 0 ks.length)), (9, .one (.os (.v 69632) 1 0 ts.length)), (10, vI .i64 n), (11, .one (.os (.v 5000) 12 0 ps.length)), (12, vI .i64 i), (13, .one (.os (.v 102400) 1 0 25)), (92, vI .i64 25), (93, vI .i64 j)] [(32768, .own 25 [arC cs]), (65536, .own 1 (ks.map tsD)), (69632, .own 1 (ts.map tsD)), (5000, .own 12 (ps.map oP)), (102400, .own 1 ((over (rowN cs i) (List.replicate 25 0) j).map inD))])
         (fun j => j ≤ 25) (fun j => 25 - j) 0 (by omega) (LeX.of ?_) ?_
        ·try (conv => whnf)
         repeat (refine Need.mk ?_ ?_; (focus (first | omega | (simp only [List.length_map, List.length_append, List.length_cons, List.length_nil, List.length_replicate]; omega) | (simp; done) | rfl)); conv => whnf)
         trivial
        ·intro j hj
         by_cases hj25 : j < 25
         ·have hcj := hco.all (cs[j]'(by omega)) (List.getElem_mem _)
          have hcl := hcj.1
          have hj1 := arC_get (cs := cs) (i := j) (by omega)
          have hji : (rowN cs i)[j]'(by simp; omega) = (cs[j]'(by omega))[i]'(by omega) := by
           simp only [rowN, List.getElem_map, List.getD_eq_getElem?_getD]
           rw [List.getElem?_eq_getElem (by omega)]; rfl
          try (conv => whnf)
          repeat' (first
           | (refine Need.mk ?_ ?_; (focus (omega)); conv => whnf)
           | (refine Pick.mk ?_ ?_ ?_; rotate_left; (focus (first | exact hj1 | (with_reducible refine get_mapN _ _ _ ?_; first | omega | (simp; omega)) | ((show @Eq Nat (_ + Int.toNat _ * _) _); simp only [Int.toNat_natCast, Nat.zero_add, Nat.mul_one]; rfl) | ((show @Eq (Option _) _ _); simp only [List.getElem?_cons_zero, List.getElem?_cons_succ]; rfl))); conv => whnf)
           | (refine SeqJ.thru ?_; conv => whnf)
           | (refine br_dec (fun _ => ?_) (fun _ => ?_) <;> first | (exfalso; omega) | contradiction | conv => whnf)
           | (refine br_not ?_; conv => whnf)
           | (refine br_bne (fun _ => ?_) (fun _ => ?_) <;> first | (exfalso; omega) | contradiction | conv => whnf)
           | (refine br_beq (fun _ => ?_) (fun _ => ?_) <;> first | (exfalso; omega) | contradiction | conv => whnf))
          refine Pick.mk (inD 0) (by rw [addN_eq, List.getElem?_map, show 0 + (j : Int).toNat = j by omega, over_get (by simp; omega) (by simp; omega), List.getElem_replicate]; rfl) ?_
          try (conv => whnf)
          repeat (first
           | (refine Need.mk ?_ ?_; (focus ((simp only [List.length_map, List.length_append, List.length_cons, List.length_nil, List.length_replicate]; omega))); conv => whnf)
           | (refine Pick.mk ?_ ?_ ?_; rotate_left; (focus (first | with_reducible exact set_inN _ _ _ _ | (refine wid ?_ ?_ <;> omega))); conv => whnf))
          refine Pick.mk (j + 1) (by constructor <;> first | omega | (simp only []; omega)) (LeX.of ?_)
          try (conv => whnf)
          repeat (refine Need.mk ?_ ?_; (focus (first | omega | (simp; done))); conv => whnf)
          refine Need.mk (by rw [← over_set (by simp; omega) (by simp; omega), hji]) ?_
          try (conv => whnf)
          trivial
         ·have eo : over (rowN cs i) (List.replicate 25 0) j = rowN cs i := over_end (by simp; omega) (by simp; omega)
          rw [eo]
          have hn25 : (rowN cs i).length = 25 := by simp; omega
          have hrin := rowN_in hco hin
          have hk0 := total_get (l := ks) (i := i) (by omega)
          have ht0 := total_get (l := ts) (i := i) (by omega)
          have h5' : inM ((rowN cs i)[5]'(by omega)) := hrin _ (List.getElem_mem _)
          obtain ⟨z, hz5⟩ : ∃ z, zag ((rowN cs i)[5]'(by omega)).toNat = z := ⟨_, rfl⟩
          have hat : opAt cs ks ts i = opOfs (rowN cs i) [ks[i]'(by omega), ts[i]'(by omega)] := by
           simp only [opAt, List.getD_eq_getElem?_getD, List.getElem?_eq_getElem (show i < ks.length by omega), List.getElem?_eq_getElem (show i < ts.length by omega), Option.getD_some]
          have hlog : logOf cs ks ts (i + 1) = logOf cs ks ts i ++ [opAt cs ks ts i] := by simp [logOf, List.range_succ]
          have cf := i_opFromM (rowN cs i) 25 (by omega) z (ks[i]'(by omega)) (ts[i]'(by omega)) hn25 h5' hz5
          have ho := opOfs_at (ts := [ks[i]'(by omega), ts[i]'(by omega)]) hn25 rfl hz5
          have hsn := snoc_oPM (out := ps) (n := rowN cs i) (o := opAt cs ks ts i) (m := 25) (by omega) hn25 rfl
          rw [hat] at hlog hsn
          obtain ⟨o, hoo⟩ : ∃ o, o = opOfs (rowN cs i) [ks[i]'(by omega), ts[i]'(by omega)] := ⟨_, rfl⟩
          have hgp : goodP ((rowN cs i).take 9, o) := ⟨by simp; omega, by rw [hoo]; simp [opOfs]; omega⟩
          rw [← hoo] at hlog hsn
          rw [← hoo] at ho
          try (conv => whnf)
          repeat' (first
           | (refine Need.mk ?_ ?_; (focus (omega)); conv => whnf)
           | (refine Pick.mk ?_ ?_ ?_; rotate_left; (focus ((with_reducible refine get_mapN _ _ _ ?_; first | omega | (simp; omega)))); conv => whnf)
           | (refine SeqJ.thru ?_; conv => whnf)
           | (refine br_dec (fun _ => ?_) (fun _ => ?_) <;> first | (exfalso; omega) | contradiction | conv => whnf)
           | (refine br_not ?_; conv => whnf)
           | (refine br_bne (fun _ => ?_) (fun _ => ?_) <;> first | (exfalso; omega) | contradiction | conv => whnf)
           | (refine br_beq (fun _ => ?_) (fun _ => ?_) <;> first | (exfalso; omega) | contradiction | conv => whnf))
          refine Hand.mk [0] ?_
          try (conv => whnf)
          refine CallW.m (cf) ?_
          try (conv => whnf)
          repeat (first
           | (refine Need.mk ?_ ?_; (focus (first | (show rechs _ _ _ _; (conv => whnf); (repeat (first | (refine Need.mk ?_ ?_; (focus (first | with_reducible rfl | omega | (simp; done) | rfl)); conv => whnf) | (refine Pick.mk ?_ ?_ ?_; rotate_left; (focus (first | with_reducible exact xor_u8 _ _ | (with_reducible refine xor_i64 ?_ ?_; all_goals omega) | (with_reducible refine xor_u32 ?_ ?_; all_goals omega) | exact hj1 | exact sl_opsP hps (by omega) | exact hz | with_reducible exact arC_last _ _ | exact arC_set h25 _ | assumption | with_reducible exact set_byN _ _ _ _ | with_reducible exact set_byI _ _ _ _ | with_reducible exact set_inN _ _ _ _ | with_reducible exact set_inI _ _ _ _ | with_reducible exact set_stN _ _ _ _ | with_reducible exact set_tsN _ _ _ _ | with_reducible exact set_tsI _ _ _ _ | with_reducible exact set_boN _ _ _ _ | with_reducible exact set_boI _ _ _ _ | (with_reducible refine get_mapN _ _ _ ?_; first | omega | (simp; omega)) | (with_reducible refine get_mapI _ _ _ ?_ ?_ <;> first | omega | (simp; omega)) | exact bs_beq _ _ | exact bs_less _ _ | exact bs_leq _ _ | with_reducible exact bs_app _ _ | (refine bs_get _ _ ?_; omega) | (refine bs_int _ _ ?_ ?_ <;> omega) | with_reducible exact sl_map0 _ _ _ | with_reducible exact sl_mapN _ _ _ | with_reducible exact sl_map _ _ _ _ | exact bs_extract0 _ _ | exact bs_extractN _ _ | exact bs_extract _ _ _ | (refine bnd_id ?_; omega) | (refine bnd_sub ?_ ?_ <;> omega) | (refine bnd_add ?_; omega) | (refine bnd_subN ?_ ?_ <;> omega) | (refine bnd_int ?_ ?_ <;> omega) | ((show @Eq Nat (_ + Int.toNat _ * _) _); simp only [Int.toNat_natCast, Nat.zero_add, Nat.mul_one]; rfl) | ((show @Eq (List _) (List.set [_] _ _) _); simp only [List.set_cons_zero]; rfl) | exact List.length_map _ | exact size_bs _ | (simp only [List.length_map, List.length_append, List.length_cons, List.length_nil, List.length_replicate, Nat.zero_add]; rfl) | with_reducible exact List.nil_append _ | with_reducible exact map_app _ _ _ | exact map_snoc byD _ _ | exact map_snoc inD _ _ | exact map_snoc stD _ _ | exact map_snoc tsD _ _ | (simp only [chunks]; rfl) | (refine wid ?_ ?_ <;> omega) | exact wby _ | with_reducible exact wby32 _ | with_reducible exact wu32 _ | exact wby64 _ | exact shr8 _ | exact shr16 _ | exact shr24 _ | exact shr32 _ | (refine tmodn ?_; omega) | (refine wdiv ?_ ?_ ?_ <;> omega) | exact wbyte _ | exact natlit _ | exact rep_by _ | exact rep_in _ | exact rep_bo _ | exact rep_st _ | (refine pick_nat _ _ _ ?_; omega) | (refine pick_int _ _ _ ?_ ?_ <;> omega) | (refine SlOf.full ?_; first | (simp; done) | (simp; omega)) | (with_reducible refine SlOf.pre _ _ ?_; first | omega | (simp; omega)) | (refine SlF.self _ _ ?_ ?_; (first | rfl | omega | (simp; done) | (simp; omega)); (exact fun _ => rfl)) | (refine SlF.pre _ _ ?_ ?_; (first | omega | (simp; omega)); (exact fun _ => rfl)) | (refine SlF.same ?_ ?_; (first | rfl | omega | (simp; done) | (simp; omega)); (first | exact fz_self _ _ (fun _ => rfl) | exact fz_pl rfl | (refine Fz.append ?_ ?_ <;> first | exact fz_self _ _ (fun _ => rfl) | exact fz_pl rfl) | (refine Fz.append (Fz.append ?_ ?_) ?_ <;> first | exact fz_self _ _ (fun _ => rfl) | exact fz_pl rfl))) | (simp only [Int.toNat_natCast, Nat.zero_add, Nat.mul_one]; rfl) | ((show @Eq (Option CV) _ _); rfl) | ((fail_if_success (show @Eq (Option _) _ _)); rfl) | ((show @Eq (Option _) _ _); simp only [List.getElem?_cons_zero, List.getElem?_cons_succ]; done) | ((show @Eq (Option _) _ _); simp only [List.getElem?_cons_zero, List.getElem?_cons_succ]; rfl) | with_reducible rfl)); conv => whnf))); exact Done.mk trivial) | (simp only [List.length_map, List.length_append, List.length_cons, List.length_nil, List.length_replicate]; omega) | (simp; omega) | (first | exact fz_self _ _ (fun _ => rfl) | exact fz_pl rfl | (refine Fz.append ?_ ?_ <;> first | exact fz_self _ _ (fun _ => rfl) | exact fz_pl rfl) | (refine Fz.append (Fz.append ?_ ?_) ?_ <;> first | exact fz_self _ _ (fun _ => rfl) | exact fz_pl rfl)))); conv => whnf)
           | (refine Pick.mk ?_ ?_ ?_; rotate_left; (focus (first | (simp only [List.length_map, List.length_append, List.length_cons, List.length_nil, List.length_replicate, Nat.zero_add]; rfl) | (simp only [chunks]; rfl) | (refine wid ?_ ?_ <;> omega) | (refine SlOf.full ?_; first | (simp; done) | (simp; omega)))); conv => whnf)
           | (refine OwnQ.mk true ?_; conv => whnf))
          refine Pick.mk (i + 1, ps ++ [((rowN cs i).take 9, o)]) ⟨⟨by dsimp only; omega, by simp; omega, fun p hp => ?_, by dsimp only; rw [List.map_append, hps, hlog]; rfl⟩, by dsimp only; omega⟩ (LeX.of ?_)
          ·rcases List.mem_append.1 hp with hp | hp
           ·exact hpg p hp
           ·simp only [List.mem_singleton] at hp; subst hp; exact hgp
          ·try (conv => whnf)
           repeat (refine Need.mk ?_ ?_; (focus (first | omega | (simp; done) | rfl)); conv => whnf)
           refine Need.mk (by rw [← hsn, ho]; rfl) ?_
           try (conv => whnf)
           trivial
       ·have hin2 : i = n := by omega
        obtain ⟨L, hL⟩ : ∃ L, L = logOf cs ks ts i := ⟨_, rfl⟩
        have hps2 : ps.map (·.2) = L := by rw [hL]; exact hps
        have hpl2 : i = L.length := by rw [hL]; simp
        have hw : ∀ o ∈ L, o.key.length ≤ 2 ^ 40 ∧ o.text.length ≤ 2 ^ 40 := fun o ho => by
         rw [hL] at ho
         have := logOf_words ho
         omega
        have hno : ¬ LogOk L → NoLog b := fun hn L' h1 h2 => by
         have k := hend L' h1 h2
         have := k.2.1 y (by rw [hy]; simp)
         have k5 := k.2.2.2.2
         rw [show L'.length = i by omega, ← hL] at k5
         exact hn (k5 ▸ h1)
        have hgd : LogOk L → RlA l 0 L := fun h => rl_good h4 hs h (by
         have hlb := colsAt_end h5 hco hkl htl hr hr2
         rw [← hin2, ← hL] at hlb
         rw [hlb, hb])
        have ci := i_LogOK L hw
        have hSl : SlF (ps.map oP) 0 ps.length (L.map oD) := sl_opsP hps2 (by omega)
        clear hend hr hr2 hco h3 h5 h6 h7 htot htot2 hps hkl htl
        by_cases hok : LogOk L
        ·rw [decide_eq_true hok] at ci
         have hgd := hgd hok
         try (conv => whnf)
         repeat' (first
          | (refine SeqJ.thru ?_; conv => whnf)
          | (refine br_dec (fun _ => ?_) (fun _ => ?_) <;> first | (exfalso; omega) | contradiction | conv => whnf)
          | (refine br_not ?_; conv => whnf)
          | (refine br_bne (fun _ => ?_) (fun _ => ?_) <;> first | (exfalso; omega) | contradiction | conv => whnf)
          | (refine br_beq (fun _ => ?_) (fun _ => ?_) <;> first | (exfalso; omega) | contradiction | conv => whnf))
         refine Hand.mk [] ?_
         conv => whnf
         refine Pick.mk _ hSl ?_
         conv => whnf
         refine CallW.d ci ?_
         try (conv => whnf)
         repeat' (first
          | (refine br_dec (fun _ => ?_) (fun _ => ?_) <;> first | (exfalso; omega) | contradiction | conv => whnf)
          | (refine br_not ?_; conv => whnf)
          | (refine br_bne (fun _ => ?_) (fun _ => ?_) <;> first | (exfalso; omega) | contradiction | conv => whnf)
          | (refine br_beq (fun _ => ?_) (fun _ => ?_) <;> first | (exfalso; omega) | contradiction | conv => whnf))
         refine Out.mk false [0, 1, 2, 3, 4] [] ?_
         try (conv => whnf)
         repeat (refine Need.mk ?_ ?_; (focus (exact flat_oP _)); conv => whnf)
         exact ⟨⟨ps, 0, by rw [hps2]; exact hgd, hpg, rfl, rfl⟩⟩
        ·rw [decide_eq_false hok] at ci
         have hno := hno hok
         try (conv => whnf)
         repeat' (first
          | (refine SeqJ.thru ?_; conv => whnf)
          | (refine br_dec (fun _ => ?_) (fun _ => ?_) <;> first | (exfalso; omega) | contradiction | conv => whnf)
          | (refine br_not ?_; conv => whnf)
          | (refine br_bne (fun _ => ?_) (fun _ => ?_) <;> first | (exfalso; omega) | contradiction | conv => whnf)
          | (refine br_beq (fun _ => ?_) (fun _ => ?_) <;> first | (exfalso; omega) | contradiction | conv => whnf))
         refine Hand.mk [] ?_
         conv => whnf
         refine Pick.mk _ hSl ?_
         conv => whnf
         refine CallW.d ci ?_
         try (conv => whnf)
         repeat' (first
          | (refine br_dec (fun _ => ?_) (fun _ => ?_) <;> first | (exfalso; omega) | contradiction | conv => whnf)
          | (refine br_not ?_; conv => whnf)
          | (refine br_bne (fun _ => ?_) (fun _ => ?_) <;> first | (exfalso; omega) | contradiction | conv => whnf)
          | (refine br_beq (fun _ => ?_) (fun _ => ?_) <;> first | (exfalso; omega) | contradiction | conv => whnf))
         refine Out.mk false [0, 1, 2, 3, 4] [(0, 12)] ?_
         try (conv => whnf)
         repeat (refine Need.mk ?_ ?_; (focus ((first | exact flat_by _ | exact flat_in _ | exact flat_st _ | exact flat_ts _ | exact flat_bo _ | exact flat_cl rfl))); conv => whnf)
         exact ⟨⟨[], 3, rl_form hlong h4 hs (hNo hno), by simp, rfl, rfl⟩⟩
end Go.Proofs.Ytpdjehnlejjfmaa.D
/- LogBytes by the reference. -/
namespace Go.Proofs.Ytpdjehnlejjfmaa.D
open Go.RowKit
set_option maxRecDepth 100000
set_option maxHeartbeats 4000000
set_option linter.unusedVariables false
set_option linter.unusedSimpArgs false

theorem s_l08Bytes (l : List OpV) (h : LogOk l) : CallD Try.prog id_spec_l08Bytes [vL l] [] (.one (.os (.v 0) 1 0 (logB l).length)) [.own 1 ((logB l).map byD)] := by
 refine F_spec_l08Bytes ?_
 have hle := h.len
 have hall := h.good.all
 try (conv => whnf)
 repeat (refine Pick.mk ?_ ?_ ?_; rotate_left; (focus ((simp only [chunks]; rfl))); conv => whnf)
 refine LoopE.mk (fun x : Nat × List UInt8 => mk [(0, vL l), (3, .one (.os (.v 8192) 1 0 x.2.length)), (4, vI .i64 x.1)] [(8192, .own 1 (x.2.map byD))]) (fun x => x.1 ≤ 25 ∧ x.2 = colsB l x.1) (fun x => 25 - x.1) (0, []) ⟨by omega, rfl⟩ (LeX.of ?_) ?_
 ·try (conv => whnf)
  repeat (refine Need.mk ?_ ?_; (focus (first | omega | (simp; done))); conv => whnf)
  trivial
 ·rintro ⟨c, C⟩ ⟨hc, hC⟩
  simp only at hc hC ⊢
  by_cases hc25 : c < 25
  ·have hcb : C.length ≤ c * 15369 := by rw [hC]; exact colsB_len hall hle c (by omega)
   have hin := colL_in hall hc25
   have h15 := putRs_len15 _ (colL l c) (Nat.le_refl _) (colL_le hall hc25) (by simpa using hle)
   have hpl := put_len (n := (colL l c).length) (by simp; omega)
   have hp : (putR (colL l c)).length ≤ 20000 := by simp only [putR, List.length_append]; simp at h15 hpl ⊢; omega
   have hcl := colL_length l c
   try (conv => whnf)
   repeat' (first
    | (refine SeqJ.thru ?_; conv => whnf)
    | (refine br_dec (fun _ => ?_) (fun _ => ?_) <;> first | (exfalso; omega) | contradiction | conv => whnf)
    | (refine br_not ?_; conv => whnf)
    | (refine br_bne (fun _ => ?_) (fun _ => ?_) <;> first | (exfalso; omega) | contradiction | conv => whnf)
    | (refine br_beq (fun _ => ?_) (fun _ => ?_) <;> first | (exfalso; omega) | contradiction | conv => whnf))
   refine Hand.mk [] ?_
   try (conv => whnf)
   refine CallW.d (s_l08Column l c hc25 (by omega) hall) ?_
   try (conv => whnf)
   refine Hand.mk [] ?_
   try (conv => whnf)
   repeat (refine Pick.mk ?_ ?_ ?_; rotate_left; (focus ((refine SlF.self _ _ ?_ ?_; (first | rfl | omega | (simp; done) | (simp; omega)); (exact fun _ => rfl)))); conv => whnf)
   refine CallW.d (s_l01PutRuns (colL l c) hin (by simp; omega)) ?_
   try (conv => whnf)
   repeat (first
    | (refine Need.mk ?_ ?_; (focus (first | omega | (first | exact fz_self _ _ (fun _ => rfl) | exact fz_pl rfl | (refine Fz.append ?_ ?_ <;> first | exact fz_self _ _ (fun _ => rfl) | exact fz_pl rfl) | (refine Fz.append (Fz.append ?_ ?_) ?_ <;> first | exact fz_self _ _ (fun _ => rfl) | exact fz_pl rfl)))); conv => whnf)
    | (refine Pick.mk ?_ ?_ ?_; rotate_left; (focus (first | (simp only [List.length_map, List.length_append, List.length_cons, List.length_nil, List.length_replicate, Nat.zero_add]; rfl) | with_reducible exact map_app _ _ _ | (refine wid ?_ ?_ <;> omega) | (refine SlOf.full ?_; first | (simp; done) | (simp; omega)))); conv => whnf))
   refine Pick.mk (c + 1, C ++ putR (colL l c)) ⟨⟨by omega, by rw [hC]; rfl⟩, by simp only; omega⟩ (LeX.of ?_)
   try (conv => whnf)
   repeat (refine Need.mk ?_ ?_; (focus (first | omega | (simp; done))); conv => whnf)
   trivial
  ·obtain rfl : c = 25 := by omega
   have hcb : C.length ≤ 25 * 15369 := by rw [hC]; exact colsB_len hall hle 25 (by omega)
   have hw := words_total hall
   have hp1 := putT_len200 (ts := keysOf l) (by simpa using hle) (by simpa using hw.1)
   have hp2 := putT_len200 (ts := textsOf l) (by simpa using hle) (by simpa using hw.2)
   try (conv => whnf)
   repeat' (first
    | (refine Pick.mk ?_ ?_ ?_; rotate_left; (focus ((simp only [chunks]; rfl))); conv => whnf)
    | (refine SeqJ.thru ?_; conv => whnf)
    | (refine br_dec (fun _ => ?_) (fun _ => ?_) <;> first | (exfalso; omega) | contradiction | conv => whnf)
    | (refine br_not ?_; conv => whnf)
    | (refine br_bne (fun _ => ?_) (fun _ => ?_) <;> first | (exfalso; omega) | contradiction | conv => whnf)
    | (refine br_beq (fun _ => ?_) (fun _ => ?_) <;> first | (exfalso; omega) | contradiction | conv => whnf))
   refine LoopE.mk (fun i : Nat => mk [(0, vL l), (3, .one (.os (.v 8192) 1 0 C.length)), (5, .one (.os (.v 28672) 1 0 i)), (6, .one (.os (.v 32768) 1 0 i)), (7, vI .i64 i)] [(8192, .own 1 (C.map byD)), (28672, .own 1 ((keysOf (l.take i)).map tsD)), (32768, .own 1 ((textsOf (l.take i)).map tsD))])
    (fun i => i ≤ l.length) (fun i => l.length - i) 0 (by omega) (LeX.of ?_) ?_
   ·try (conv => whnf)
    repeat (refine Need.mk ?_ ?_; (focus (first | omega | (simp; done) | rfl)); conv => whnf)
    trivial
   ·intro i hi
    by_cases hlt : i < l.length
    ·have k1 := keysOf_take hlt
     have k2 := textsOf_take hlt
     have n1 : (keysOf (l.take i)).length = i := by simp; omega
     have n2 : (textsOf (l.take i)).length = i := by simp; omega
     try (conv => whnf)
     repeat' (first
      | (refine Need.mk ?_ ?_; (focus (first | omega | rfl)); conv => whnf)
      | (refine Pick.mk ?_ ?_ ?_; rotate_left; (focus (first | exact List.length_map _ | (simp only [List.length_map, List.length_append, List.length_cons, List.length_nil, List.length_replicate, Nat.zero_add]; rfl) | exact map_snoc tsD _ _ | (simp only [chunks]; rfl) | (refine wid ?_ ?_ <;> omega) | (refine pick_nat _ _ _ ?_; omega) | (refine SlOf.full ?_; first | (simp; done) | (simp; omega)))); conv => whnf)
      | (refine SeqJ.thru ?_; conv => whnf)
      | (refine br_dec (fun _ => ?_) (fun _ => ?_) <;> first | (exfalso; omega) | contradiction | conv => whnf)
      | (refine br_not ?_; conv => whnf)
      | (refine br_bne (fun _ => ?_) (fun _ => ?_) <;> first | (exfalso; omega) | contradiction | conv => whnf)
      | (refine br_beq (fun _ => ?_) (fun _ => ?_) <;> first | (exfalso; omega) | contradiction | conv => whnf))
     refine Pick.mk (i + 1) (by constructor <;> first | omega | (simp only []; omega)) (LeX.of ?_)
     try (conv => whnf)
     repeat (refine Need.mk ?_ ?_; (focus (first | omega | (simp; done))); conv => whnf)
     refine Need.mk (by rw [k1]) ?_
     try (conv => whnf)
     refine Need.mk (by rw [k2]) ?_
     try (conv => whnf)
     trivial
    ·have e : l.take i = l := List.take_of_length_le (by omega)
     have hi2 : i = l.length := by omega
     have n1 : (keysOf (l.take i)).length = i := by rw [e]; simp; omega
     have n2 : (textsOf (l.take i)).length = i := by rw [e]; simp; omega
     have t1 : total (keysOf (l.take i)) ≤ 2 ^ 40 := by rw [e]; omega
     have t2 : total (textsOf (l.take i)) ≤ 2 ^ 40 := by rw [e]; omega
     try (conv => whnf)
     repeat' (first
      | (refine Pick.mk ?_ ?_ ?_; rotate_left; (focus (exact List.length_map _)); conv => whnf)
      | (refine SeqJ.thru ?_; conv => whnf)
      | (refine br_dec (fun _ => ?_) (fun _ => ?_) <;> first | (exfalso; omega) | contradiction | conv => whnf)
      | (refine br_not ?_; conv => whnf)
      | (refine br_bne (fun _ => ?_) (fun _ => ?_) <;> first | (exfalso; omega) | contradiction | conv => whnf)
      | (refine br_beq (fun _ => ?_) (fun _ => ?_) <;> first | (exfalso; omega) | contradiction | conv => whnf))
     refine Hand.mk [] ?_
     try (conv => whnf)
     repeat (refine Pick.mk ?_ ?_ ?_; rotate_left; (focus ((refine SlF.self _ _ ?_ ?_; (first | rfl | omega | (simp; done) | (simp; omega)); (exact fun _ => rfl)))); conv => whnf)
     refine CallW.r (s_l01PutTexts (keysOf (l.take i)) (by omega) t1) ?_
     rintro _ _ ⟨K, rfl, rfl, hK⟩
     have hK1 : K = putT (keysOf l) := by
      rw [e] at hK
      rcases hK with hK | hK
      ·exact hK
      ·omega
     have hKl : K.length ≤ 223300 := by rw [hK1]; exact hp1
     clear hK
     try (conv => whnf)
     repeat (first
      | (refine Need.mk ?_ ?_; (focus (first | omega | (first | exact fz_self _ _ (fun _ => rfl) | exact fz_pl rfl | (refine Fz.append ?_ ?_ <;> first | exact fz_self _ _ (fun _ => rfl) | exact fz_pl rfl) | (refine Fz.append (Fz.append ?_ ?_) ?_ <;> first | exact fz_self _ _ (fun _ => rfl) | exact fz_pl rfl)))); conv => whnf)
      | (refine Pick.mk ?_ ?_ ?_; rotate_left; (focus (first | (simp only [List.length_map, List.length_append, List.length_cons, List.length_nil, List.length_replicate, Nat.zero_add]; rfl) | with_reducible exact map_app _ _ _ | (refine SlOf.full ?_; first | (simp; done) | (simp; omega)))); conv => whnf))
     refine Hand.mk [] ?_
     try (conv => whnf)
     repeat (refine Pick.mk ?_ ?_ ?_; rotate_left; (focus ((refine SlF.self _ _ ?_ ?_; (first | rfl | omega | (simp; done) | (simp; omega)); (exact fun _ => rfl)))); conv => whnf)
     refine CallW.r (s_l01PutTexts (textsOf (l.take i)) (by omega) t2) ?_
     rintro _ _ ⟨X, rfl, rfl, hX⟩
     have hX1 : X = putT (textsOf l) := by
      rw [e] at hX
      rcases hX with hX | hX
      ·exact hX
      ·omega
     have hXl : X.length ≤ 223300 := by rw [hX1]; exact hp2
     clear hX
     have hl3 : (C ++ K ++ X).length ≤ 1048576 := by simp only [List.length_append]; omega
     have hs := sumH_lt (h := 2166136261) (by omega) (C ++ K ++ X)
     try (conv => whnf)
     repeat (first
      | (refine Need.mk ?_ ?_; (focus (first | omega | (first | exact fz_self _ _ (fun _ => rfl) | exact fz_pl rfl | (refine Fz.append ?_ ?_ <;> first | exact fz_self _ _ (fun _ => rfl) | exact fz_pl rfl) | (refine Fz.append (Fz.append ?_ ?_) ?_ <;> first | exact fz_self _ _ (fun _ => rfl) | exact fz_pl rfl)))); conv => whnf)
      | (refine Pick.mk ?_ ?_ ?_; rotate_left; (focus (first | (simp only [List.length_map, List.length_append, List.length_cons, List.length_nil, List.length_replicate, Nat.zero_add]; rfl) | with_reducible exact map_app _ _ _ | (refine SlOf.full ?_; first | (simp; done) | (simp; omega)))); conv => whnf))
     refine Hand.mk [] ?_
     try (conv => whnf)
     repeat (refine Pick.mk ?_ ?_ ?_; rotate_left; (focus ((refine SlF.self _ _ ?_ ?_; (first | rfl | omega | (simp; done) | (simp; omega)); (exact fun _ => rfl)))); conv => whnf)
     refine CallW.d (s_Sum32 (C ++ K ++ X) hl3) ?_
     try (conv => whnf)
     refine Hand.mk [] ?_
     try (conv => whnf)
     refine CallW.d (s_l01Four (sumH 2166136261 (C ++ K ++ X)) (by omega) (by omega)) ?_
     try (conv => whnf)
     repeat (first
      | (refine Need.mk ?_ ?_; (focus (first | (simp; omega) | rfl)); conv => whnf)
      | (refine Pick.mk ?_ ?_ ?_; rotate_left; (focus (first | (simp only [List.length_map, List.length_append, List.length_cons, List.length_nil, List.length_replicate, Nat.zero_add]; rfl) | with_reducible exact map_app _ _ _ | (refine SlOf.full ?_; first | (simp; done) | (simp; omega)))); conv => whnf))
     refine Out.mk false [0, 1, 2, 3, 4] [] ?_
     try (conv => whnf)
     repeat (refine Need.mk ?_ ?_; (focus ((first | exact flat_by _ | exact flat_in _ | exact flat_st _ | exact flat_ts _ | exact flat_bo _ | exact flat_cl rfl))); conv => whnf)
     have e3 : C ++ K ++ X = logB0 l := by rw [hC, hK1, hX1, logB0]
     rw [e3]
     exact ⟨by simp [logB, four, ← e3]; omega, by rw [logB]⟩
end Go.Proofs.Ytpdjehnlejjfmaa.D
/- A log read out of bytes, by the reference. -/
namespace Go.Proofs.Ytpdjehnlejjfmaa.D
open Go.RowKit
set_option maxRecDepth 100000
set_option maxHeartbeats 40000000
set_option linter.unusedVariables false
set_option linter.unusedSimpArgs false

theorem s_runsB {l : List UInt8} {a : Nat} (hl : l.length ≤ 2 ^ 40) (ha : a ≤ l.length) :
  CallM Try.prog id_spec_l01Reader_runs [.one (.ptr 0 0)] [rdR l a true] [] false fun r Lo => ∃ b : Nat, Lo = [rdR l b true, .own 1 []] ∧ r = .one (.os (.v 1) 1 0 0) ∧ b ≤ l.length := by
 refine F_spec_l01Reader_runs ?_
 try (conv => whnf)
 repeat (refine Pick.mk ?_ ?_ ?_; rotate_left; (focus ((simp only [chunks]; rfl))); conv => whnf)
 refine Hand.mk [] ?_
 try (conv => whnf)
 refine CallW.n (s_countB hl ha) ?_
 rintro _ _ ⟨b, rfl, rfl, hb⟩
 try (conv => whnf)
 repeat (refine SeqJ.thru ?_; conv => whnf)
 refine LoopE.mk (fun (_ : Nat) => mk [(0, .one (.ptr 0 0)), (3, .one (.os (.v 8192) 1 0 0)), (4, vI .i64 0)] [(0, rdR l b true), (8192, .own 1 [])]) (fun _ => True) (fun x => x) 0 trivial (LeX.of ?_) ?_
 ·try (conv => whnf)
  repeat (refine Need.mk ?_ ?_; (focus (first | omega | (simp; done))); conv => whnf)
  trivial
 ·rintro _ -
  try (conv => whnf)
  repeat' (first
   | (refine SeqJ.thru ?_; conv => whnf)
   | (refine br_dec (fun _ => ?_) (fun _ => ?_) <;> first | (exfalso; omega) | contradiction | conv => whnf)
   | (refine br_not ?_; conv => whnf)
   | (refine br_bne (fun _ => ?_) (fun _ => ?_) <;> first | (exfalso; omega) | contradiction | conv => whnf)
   | (refine br_beq (fun _ => ?_) (fun _ => ?_) <;> first | (exfalso; omega) | contradiction | conv => whnf))
  refine Out.mk false [0, 1, 2, 3, 4] [] ?_
  try (conv => whnf)
  exact ⟨b, rfl, rfl, hb⟩
abbrev lsD (xs : List Int) : DV := .sl (xs.map inD)
abbrev lsE (xs : List Int) : List DV := [lsD xs]
theorem get_ls (l : List (List Int)) (j : Nat) (h : j < l.length) : (l.map lsE)[addN 0 (j : Int).toNat]? = some (lsE l[j]) := by
 rw [addN_eq, Nat.zero_add, List.getElem?_map, List.getElem?_eq_getElem (by omega)]; simp
def RlS (l : List UInt8) : SV → List Row → Prop := fun r Lo => ∃ (L : List OpV) (c : Int), RlA l c L ∧ r = .tup [(false, [.os (.v 0) 12 0 L.length]), (false, [cI c])] ∧ Lo = [.own 12 (L.map oD)]
theorem nineC {α : Type} {n : List α} (h : n.length = 25) : ∃ n0 n1 n2 n3 n4 n5 n6 n7 n8 d, n = n0 :: n1 :: n2 :: n3 :: n4 :: n5 :: n6 :: n7 :: n8 :: d ∧ d.length = 16 := by
 match n, h with
 | n0 :: n1 :: n2 :: n3 :: n4 :: n5 :: n6 :: n7 :: n8 :: d, h => exact ⟨n0, n1, n2, n3, n4, n5, n6, n7, n8, d, rfl, by simpa using h⟩
def loopsOf : Code → List Code
 | .seq x y => loopsOf x ++ loopsOf y
 | .cond _ x y => loopsOf x ++ loopsOf y
 | .block _ c => loopsOf c
 | .loop c => c :: loopsOf c
 | _ => []
def loopN (n : Nat) (c : Code) : Code := (loopsOf c).getD n .skip
theorem s_rlRow (l : List UInt8) (cs : List (List Int)) (ks ts : List (List UInt8)) (L : List OpV) (i n : Nat) (hin : i < n) (hn2 : n ≤ 1024) (hc25 : cs.length = 25) (hcn : ∀ c ∈ cs, c.length = n) (h3i : ∀ c ∈ cs, ∀ y ∈ c, inM y) (hkl : ks.length = n) (htl : ts.length = n)
  (hkt : total ks ≤ 1048576) (htt : total ts ≤ 1048576) (hLl : L.length = i) (hL : L = logOf cs ks ts i) (Q : Exit → St → Prop)
  (hQ : ∀ S o, logOf cs ks ts (i + 1) = L ++ [o] → LeX S (mk [(0, vY l), (6, .one (.os (.v 32768) 1 0 cs.length)), (8, .one (.os (.v 53264) 1 0 ks.length)), (9, .one (.os (.v 57360) 1 0 ts.length)), (10, vI .i64 n), (12, .one (.os (.v 94208) 12 0 (L ++ [o]).length)), (13, vI .i64 (i + 1 : Nat))] [(32768, .own 1 (cs.map lsE)), (53264, .own 1 (ks.map tsD)), (57360, .own 1 (ts.map tsD)), (94208, .own 12 ((L ++ [o]).map oD))]) → Q .normal S) :
  wpE Try.prog (lk tyList) pl_spec_ReadLog (loopN 2 (bodyOf Try.f25)) (mk [(0, vY l), (6, .one (.os (.v 32768) 1 0 cs.length)), (8, .one (.os (.v 53264) 1 0 ks.length)), (9, .one (.os (.v 57360) 1 0 ts.length)), (10, vI .i64 n), (12, .one (.os (.v 94208) 12 0 (L).length)), (13, vI .i64 (i : Nat))] [(32768, .own 1 (cs.map lsE)), (53264, .own 1 (ks.map tsD)), (57360, .own 1 (ts.map tsD)), (94208, .own 12 ((L).map oD))]) Q := by
 obtain ⟨c0, c1, c2, c3, c4, c5, c6, c7, c8, ds, hcs, hds⟩ := nineC hc25
 have hk0 := total_get (l := ks) (i := i) (by omega)
 have ht0 := total_get (l := ts) (i := i) (by omega)
 have q0 : c0.length = n := hcn _ (by rw [hcs]; simp)
 have q1 : c1.length = n := hcn _ (by rw [hcs]; simp)
 have q2 : c2.length = n := hcn _ (by rw [hcs]; simp)
 have q3 : c3.length = n := hcn _ (by rw [hcs]; simp)
 have q4 : c4.length = n := hcn _ (by rw [hcs]; simp)
 have q5 : c5.length = n := hcn _ (by rw [hcs]; simp)
 have q6 : c6.length = n := hcn _ (by rw [hcs]; simp)
 have q7 : c7.length = n := hcn _ (by rw [hcs]; simp)
 have q8 : c8.length = n := hcn _ (by rw [hcs]; simp)
 have p0 : (cs.map lsE)[addN 0 (Int.toNat 0)]? = some (lsE c0) := by rw [hcs]; rfl
 have p1 : (cs.map lsE)[addN 0 (Int.toNat 1)]? = some (lsE c1) := by rw [hcs]; rfl
 have p2 : (cs.map lsE)[addN 0 (Int.toNat 2)]? = some (lsE c2) := by rw [hcs]; rfl
 have p3 : (cs.map lsE)[addN 0 (Int.toNat 3)]? = some (lsE c3) := by rw [hcs]; rfl
 have p4 : (cs.map lsE)[addN 0 (Int.toNat 4)]? = some (lsE c4) := by rw [hcs]; rfl
 have p5 : (cs.map lsE)[addN 0 (Int.toNat 5)]? = some (lsE c5) := by rw [hcs]; rfl
 have p6 : (cs.map lsE)[addN 0 (Int.toNat 6)]? = some (lsE c6) := by rw [hcs]; rfl
 have p7 : (cs.map lsE)[addN 0 (Int.toNat 7)]? = some (lsE c7) := by rw [hcs]; rfl
 have p8 : (cs.map lsE)[addN 0 (Int.toNat 8)]? = some (lsE c8) := by rw [hcs]; rfl
 obtain ⟨x0, hx0⟩ : ∃ x, x = c0[i]'(by omega) := ⟨_, rfl⟩
 have g0 : 0 ≤ (i : Int) ∧ (c0.map inD)[(i : Int).toNat]? = some (inD x0) := by rw [hx0]; exact pick_nat c0 inD i (by omega)
 obtain ⟨x1, hx1⟩ : ∃ x, x = c1[i]'(by omega) := ⟨_, rfl⟩
 have g1 : 0 ≤ (i : Int) ∧ (c1.map inD)[(i : Int).toNat]? = some (inD x1) := by rw [hx1]; exact pick_nat c1 inD i (by omega)
 obtain ⟨x2, hx2⟩ : ∃ x, x = c2[i]'(by omega) := ⟨_, rfl⟩
 have g2 : 0 ≤ (i : Int) ∧ (c2.map inD)[(i : Int).toNat]? = some (inD x2) := by rw [hx2]; exact pick_nat c2 inD i (by omega)
 obtain ⟨x3, hx3⟩ : ∃ x, x = c3[i]'(by omega) := ⟨_, rfl⟩
 have g3 : 0 ≤ (i : Int) ∧ (c3.map inD)[(i : Int).toNat]? = some (inD x3) := by rw [hx3]; exact pick_nat c3 inD i (by omega)
 obtain ⟨x4, hx4⟩ : ∃ x, x = c4[i]'(by omega) := ⟨_, rfl⟩
 have g4 : 0 ≤ (i : Int) ∧ (c4.map inD)[(i : Int).toNat]? = some (inD x4) := by rw [hx4]; exact pick_nat c4 inD i (by omega)
 obtain ⟨x5, hx5⟩ : ∃ x, x = c5[i]'(by omega) := ⟨_, rfl⟩
 have g5 : 0 ≤ (i : Int) ∧ (c5.map inD)[(i : Int).toNat]? = some (inD x5) := by rw [hx5]; exact pick_nat c5 inD i (by omega)
 obtain ⟨x6, hx6⟩ : ∃ x, x = c6[i]'(by omega) := ⟨_, rfl⟩
 have g6 : 0 ≤ (i : Int) ∧ (c6.map inD)[(i : Int).toNat]? = some (inD x6) := by rw [hx6]; exact pick_nat c6 inD i (by omega)
 obtain ⟨x7, hx7⟩ : ∃ x, x = c7[i]'(by omega) := ⟨_, rfl⟩
 have g7 : 0 ≤ (i : Int) ∧ (c7.map inD)[(i : Int).toNat]? = some (inD x7) := by rw [hx7]; exact pick_nat c7 inD i (by omega)
 obtain ⟨x8, hx8⟩ : ∃ x, x = c8[i]'(by omega) := ⟨_, rfl⟩
 have g8 : 0 ≤ (i : Int) ∧ (c8.map inD)[(i : Int).toNat]? = some (inD x8) := by rw [hx8]; exact pick_nat c8 inD i (by omega)
 obtain ⟨K, hK⟩ : ∃ x, x = ks[i]'(by omega) := ⟨_, rfl⟩
 obtain ⟨X, hX⟩ : ∃ x, x = ts[i]'(by omega) := ⟨_, rfl⟩
 have gK : (ks.map tsD)[addN 0 (i : Int).toNat]? = some (tsD K) := by rw [hK, addN_eq, Nat.zero_add, Int.toNat_natCast, List.getElem?_map, List.getElem?_eq_getElem (by omega)]; rfl
 have gX : (ts.map tsD)[addN 0 (i : Int).toNat]? = some (tsD X) := by rw [hX, addN_eq, Nat.zero_add, Int.toNat_natCast, List.getElem?_map, List.getElem?_eq_getElem (by omega)]; rfl
 have h5a : inM x5 := h3i c5 (by rw [hcs]; simp) _ (by rw [hx5]; exact List.getElem_mem _)
 have h5b := h5a
 unfold inM M4 at h5b
 obtain ⟨z, hz5⟩ : ∃ z, zag x5.toNat = z := ⟨_, rfl⟩
 obtain ⟨D, hD⟩ : ∃ D, D = rowN ds i := ⟨_, rfl⟩
 have hdl : D.length = 16 := by rw [hD]; simp; omega
 have hds2 : ∀ c ∈ ds, c.length = n := fun c hc => hcn c (by rw [hcs]; simp [hc])
 have hpd : ∀ (a : Nat) (h : a < 16), (cs.map lsE)[addN 0 (9 + (a : Int)).toNat]? = some (lsE (ds[a]'(by omega))) := fun a h => by
  rw [hcs, addN_eq, Nat.zero_add, show (9 + (a : Int)).toNat = a + 9 by omega]
  simp [show a < ds.length by omega]
 have hge : ∀ (a : Nat) (h : a < 16), 0 ≤ (i : Int) ∧ ((ds[a]'(by omega)).map inD)[(i : Int).toNat]? = some (inD (D[a]'(by omega))) := fun a h => by
  have hda := hds2 (ds[a]'(by omega)) (List.getElem_mem _)
  have e : D[a]'(by omega) = (ds[a]'(by omega))[i]'(by omega) := by
   simp only [hD, rowN, List.getElem_map, List.getD_eq_getElem?_getD]
   rw [List.getElem?_eq_getElem (by omega)]; rfl
  rw [e]
  exact pick_nat _ inD i (by omega)
 obtain ⟨o, hoo⟩ : ∃ o : OpV, o = ⟨x0, x1, x2, D, x3, x4, z, x6, x7, x8, K, X⟩ := ⟨_, rfl⟩
 have hlog : logOf cs ks ts (i + 1) = L ++ [o] := by
  have e : logOf cs ks ts (i + 1) = logOf cs ks ts i ++ [opAt cs ks ts i] := by simp [logOf, List.range_succ]
  rw [e, ← hL]
  congr 2
  rw [hoo, ← hz5, hx0, hx1, hx2, hx3, hx4, hx5, hx6, hx7, hx8, hK, hX, hD]
  simp only [opAt, opOfs, hcs, rowN, List.map_cons, List.getD_cons_zero, List.getD_cons_succ, List.drop_succ_cons, List.drop_zero]
  simp only [List.getD_eq_getElem?_getD, List.getElem?_eq_getElem (show i < c0.length by omega), List.getElem?_eq_getElem (show i < c1.length by omega), List.getElem?_eq_getElem (show i < c2.length by omega), List.getElem?_eq_getElem (show i < c3.length by omega), List.getElem?_eq_getElem (show i < c4.length by omega), List.getElem?_eq_getElem (show i < c5.length by omega), List.getElem?_eq_getElem (show i < c6.length by omega), List.getElem?_eq_getElem (show i < c7.length by omega), List.getElem?_eq_getElem (show i < c8.length by omega), List.getElem?_eq_getElem (show i < ks.length by omega), List.getElem?_eq_getElem (show i < ts.length by omega), Option.getD_some]
 clear hx0 hx1 hx2 hx3 hx4 hx5 hx6 hx7 hx8 hK hX hD
 try (conv => whnf)
 repeat' (first
  | (refine br_dec (fun _ => ?_) (fun _ => ?_) <;> first | (exfalso; omega) | contradiction | conv => whnf)
  | (refine br_not ?_; conv => whnf)
  | (refine br_bne (fun _ => ?_) (fun _ => ?_) <;> first | (exfalso; omega) | contradiction | conv => whnf)
  | (refine br_beq (fun _ => ?_) (fun _ => ?_) <;> first | (exfalso; omega) | contradiction | conv => whnf))
 refine SeqJ.thru ?_
 try (conv => whnf)
 repeat' (first
  | (refine br_dec (fun _ => ?_) (fun _ => ?_) <;> first | (exfalso; omega) | contradiction | conv => whnf)
  | (refine br_not ?_; conv => whnf)
  | (refine br_bne (fun _ => ?_) (fun _ => ?_) <;> first | (exfalso; omega) | contradiction | conv => whnf)
  | (refine br_beq (fun _ => ?_) (fun _ => ?_) <;> first | (exfalso; omega) | contradiction | conv => whnf))
 refine SeqJ.thru ?_
 try (conv => whnf)
 repeat (first
  | (refine Pick.mk ?_ ?_ ?_; rotate_left; (focus (first | with_reducible exact gK | with_reducible exact gX | with_reducible exact g0 | with_reducible exact g1 | with_reducible exact g2 | with_reducible exact g3 | with_reducible exact g4 | with_reducible exact g5 | with_reducible exact g6 | with_reducible exact g7 | with_reducible exact g8 | with_reducible exact p0 | with_reducible exact p1 | with_reducible exact p2 | with_reducible exact p3 | with_reducible exact p4 | with_reducible exact p5 | with_reducible exact p6 | with_reducible exact p7 | with_reducible exact p8 | with_reducible exact pd | (with_reducible refine pick_nat _ _ _ ?_; omega) | (with_reducible refine get_mapN _ _ _ ?_; omega) | (refine wdiv ?_ ?_ ?_ <;> omega) | (refine wid ?_ ?_ <;> omega) | with_reducible rfl | rfl)); conv => whnf)
  | (refine Need.mk ?_ ?_; (focus (first | (show rechs _ _ _ _; (conv => whnf); (repeat (first | (refine Pick.mk ?_ ?_ ?_; rotate_left; (focus (first | with_reducible exact gK | with_reducible exact gX | with_reducible exact g0 | with_reducible exact g1 | with_reducible exact g2 | with_reducible exact g3 | with_reducible exact g4 | with_reducible exact g5 | with_reducible exact g6 | with_reducible exact g7 | with_reducible exact g8 | with_reducible exact p0 | with_reducible exact p1 | with_reducible exact p2 | with_reducible exact p3 | with_reducible exact p4 | with_reducible exact p5 | with_reducible exact p6 | with_reducible exact p7 | with_reducible exact p8 | with_reducible exact pd | (with_reducible refine pick_nat _ _ _ ?_; omega) | (with_reducible refine get_mapN _ _ _ ?_; omega) | (refine wdiv ?_ ?_ ?_ <;> omega) | (refine wid ?_ ?_ <;> omega) | with_reducible rfl | rfl)); conv => whnf) | (refine Need.mk ?_ ?_; (focus (first | with_reducible rfl | omega | rfl)); conv => whnf))); exact Done.mk trivial) | omega | rfl)); conv => whnf))
 refine SeqJ.join (fun _ : Unit => mk [(0, vY l), (6, .one (.os (.v 32768) 1 0 cs.length)), (8, .one (.os (.v 53264) 1 0 ks.length)), (9, .one (.os (.v 57360) 1 0 ts.length)), (10, vI .i64 n), (12, .one (.os (.v 94208) 12 0 L.length)), (13, vI .i64 i), (14, .one (.ptr 111632 0))] [(32768, .own 1 (cs.map lsE)), (53264, .own 1 (ks.map tsD)), (57360, .own 1 (ts.map tsD)), (94208, .own 12 (L.map oD)), (111632, .box [cI x0, cI x1, cI x2, .nil, cI x3, cI x4, cI z, cI x6, cI x7, cI x8, cS (bs K), cS (bs X)])]) (fun _ => True) ?_ ?_
 ·by_cases hz2 : x5 % 2 = 1
  ·have hzt : Hid (IntKind.i64.wrap (((0 : Int) - (x5 + 1)).tdiv 2) = z) := ⟨by
    rw [← hz5]
    have := zag_tdiv (z := x5.toNat) (by omega) (by omega)
    rwa [Int.toNat_of_nonneg (by omega)] at this⟩
   try (conv => whnf)
   repeat' (first
    | (refine Need.mk ?_ ?_; (focus (omega)); conv => whnf)
    | (refine Pick.mk ?_ ?_ ?_; rotate_left; (focus (first | with_reducible exact g5 | with_reducible exact hzt.out | with_reducible exact p5 | (refine wid ?_ ?_ <;> omega) | (refine tmodn ?_; omega))); conv => whnf)
    | (refine br_dec (fun _ => ?_) (fun _ => ?_) <;> first | (exfalso; omega) | contradiction | conv => whnf)
    | (refine br_not ?_; conv => whnf)
    | (refine br_bne (fun _ => ?_) (fun _ => ?_) <;> first | (exfalso; omega) | contradiction | conv => whnf)
    | (refine br_beq (fun _ => ?_) (fun _ => ?_) <;> first | (exfalso; omega) | contradiction | conv => whnf))
   refine Pick.mk () trivial (LeX.of ?_)
   try (conv => whnf)
   repeat (refine Need.mk ?_ ?_; (focus (first | omega | (simp; done))); conv => whnf)
   trivial
  ·have hzt : x5 / 2 = z := by
    rw [← hz5, zag, if_neg (by omega)]
    omega
   try (conv => whnf)
   repeat' (first
    | (refine Need.mk ?_ ?_; (focus (omega)); conv => whnf)
    | (refine Pick.mk ?_ ?_ ?_; rotate_left; (focus (first | with_reducible exact g5 | with_reducible exact p5 | (refine tmodn ?_; omega))); conv => whnf)
    | (refine br_dec (fun _ => ?_) (fun _ => ?_) <;> first | (exfalso; omega) | contradiction | conv => whnf)
    | (refine br_not ?_; conv => whnf)
    | (refine br_bne (fun _ => ?_) (fun _ => ?_) <;> first | (exfalso; omega) | contradiction | conv => whnf)
    | (refine br_beq (fun _ => ?_) (fun _ => ?_) <;> first | (exfalso; omega) | contradiction | conv => whnf))
   refine Pick.mk () trivial (LeX.of ?_)
   try (conv => whnf)
   repeat (refine Need.mk ?_ ?_; (focus (first | omega | (simp; done))); conv => whnf)
   trivial
 ·rintro - -
  try (conv => whnf)
  refine LoopE.mk (fun a : Nat => mk [(0, vY l), (6, .one (.os (.v 32768) 1 0 cs.length)), (8, .one (.os (.v 53264) 1 0 ks.length)), (9, .one (.os (.v 57360) 1 0 ts.length)), (10, vI .i64 n), (12, .one (.os (.v 94208) 12 0 L.length)), (13, vI .i64 i), (14, .one (.ptr 111632 0)), (15, vI .i64 a)] [(32768, .own 1 (cs.map lsE)), (53264, .own 1 (ks.map tsD)), (57360, .own 1 (ts.map tsD)), (94208, .own 12 (L.map oD)), (111632, .box [cI x0, cI x1, cI x2, .os (.v 135360) 1 0 a, cI x3, cI x4, cI z, cI x6, cI x7, cI x8, cS (bs K), cS (bs X)]), (135360, .own 1 ((D.take a).map inD))])
   (fun a => a ≤ 16) (fun a => 16 - a) 0 (by omega) (LeX.of ?_) ?_
  ·try (conv => whnf)
   repeat (refine Need.mk ?_ ?_; (focus (first | omega | (simp; done))); conv => whnf)
   trivial
  ·intro a ha
   by_cases ha16 : a < 16
   ·have pd := hpd a ha16
    have pe := hge a ha16
    have htk : (D.take a).map inD ++ [inD (D[a]'(by omega))] = (D.take (a + 1)).map inD := by
     rw [List.take_succ_eq_append_getElem (by omega), List.map_append]; rfl
    try (conv => whnf)
    repeat' (first
     | (refine Need.mk ?_ ?_; (focus (first | (show rechs _ _ _ _; (conv => whnf); (repeat (first | (refine Need.mk ?_ ?_; (focus (first | with_reducible rfl | omega | (simp; done) | rfl)); conv => whnf) | (refine Pick.mk ?_ ?_ ?_; rotate_left; (focus (first | with_reducible exact xor_u8 _ _ | (with_reducible refine xor_i64 ?_ ?_; all_goals omega) | (with_reducible refine xor_u32 ?_ ?_; all_goals omega) | with_reducible exact g5 | exact map_snoc oD _ _ | exact map_snoc lsE _ _ | (with_reducible refine pick_nat _ _ _ ?_; omega) | exact htk | with_reducible exact pd | with_reducible exact pe | with_reducible exact hzt.out | with_reducible exact p0 | with_reducible exact p1 | with_reducible exact p2 | with_reducible exact p3 | with_reducible exact p4 | with_reducible exact p5 | with_reducible exact p6 | with_reducible exact p7 | with_reducible exact p8 | assumption | with_reducible exact set_byN _ _ _ _ | with_reducible exact set_byI _ _ _ _ | with_reducible exact set_inN _ _ _ _ | with_reducible exact set_inI _ _ _ _ | with_reducible exact set_stN _ _ _ _ | with_reducible exact set_tsN _ _ _ _ | with_reducible exact set_tsI _ _ _ _ | with_reducible exact set_boN _ _ _ _ | with_reducible exact set_boI _ _ _ _ | (with_reducible refine get_mapN _ _ _ ?_; first | omega | (simp; omega)) | (with_reducible refine get_mapI _ _ _ ?_ ?_ <;> first | omega | (simp; omega)) | exact bs_beq _ _ | exact bs_less _ _ | exact bs_leq _ _ | with_reducible exact bs_app _ _ | (refine bs_get _ _ ?_; omega) | (refine bs_int _ _ ?_ ?_ <;> omega) | with_reducible exact sl_map0 _ _ _ | with_reducible exact sl_mapN _ _ _ | with_reducible exact sl_map _ _ _ _ | exact bs_extract0 _ _ | exact bs_extractN _ _ | exact bs_extract _ _ _ | (refine bnd_id ?_; omega) | (refine bnd_sub ?_ ?_ <;> omega) | (refine bnd_add ?_; omega) | (refine bnd_subN ?_ ?_ <;> omega) | (refine bnd_int ?_ ?_ <;> omega) | ((show @Eq Nat (_ + Int.toNat _ * _) _); simp only [Int.toNat_natCast, Nat.zero_add, Nat.mul_one]; rfl) | ((show @Eq (List _) (List.set [_] _ _) _); simp only [List.set_cons_zero]; rfl) | exact List.length_map _ | exact size_bs _ | (simp only [List.length_map, List.length_append, List.length_cons, List.length_nil, List.length_replicate, Nat.zero_add]; rfl) | with_reducible exact List.nil_append _ | with_reducible exact map_app _ _ _ | exact map_snoc byD _ _ | exact map_snoc inD _ _ | exact map_snoc stD _ _ | exact map_snoc tsD _ _ | (simp only [chunks]; rfl) | (refine wid ?_ ?_ <;> omega) | exact wby _ | with_reducible exact wby32 _ | with_reducible exact wu32 _ | exact wby64 _ | exact shr8 _ | exact shr16 _ | exact shr24 _ | exact shr32 _ | (refine tmodn ?_; omega) | (refine wdiv ?_ ?_ ?_ <;> omega) | exact wbyte _ | exact natlit _ | exact rep_by _ | exact rep_in _ | exact rep_bo _ | exact rep_st _ | (refine pick_nat _ _ _ ?_; omega) | (refine pick_int _ _ _ ?_ ?_ <;> omega) | (refine SlOf.full ?_; first | (simp; done) | (simp; omega)) | (with_reducible refine SlOf.pre _ _ ?_; first | omega | (simp; omega)) | (refine SlF.self _ _ ?_ ?_; (first | rfl | omega | (simp; done) | (simp; omega)); (exact fun _ => rfl)) | (refine SlF.pre _ _ ?_ ?_; (first | omega | (simp; omega)); (exact fun _ => rfl)) | (refine SlF.same ?_ ?_; (first | rfl | omega | (simp; done) | (simp; omega)); (first | exact fz_self _ _ (fun _ => rfl) | exact fz_pl rfl | (refine Fz.append ?_ ?_ <;> first | exact fz_self _ _ (fun _ => rfl) | exact fz_pl rfl) | (refine Fz.append (Fz.append ?_ ?_) ?_ <;> first | exact fz_self _ _ (fun _ => rfl) | exact fz_pl rfl))) | (simp only [Int.toNat_natCast, Nat.zero_add, Nat.mul_one]; rfl) | ((show @Eq (Option CV) _ _); rfl) | ((fail_if_success (show @Eq (Option _) _ _)); rfl) | ((show @Eq (Option _) _ _); simp only [List.getElem?_cons_zero, List.getElem?_cons_succ]; done) | ((show @Eq (Option _) _ _); simp only [List.getElem?_cons_zero, List.getElem?_cons_succ]; rfl) | with_reducible rfl)); conv => whnf))); exact Done.mk trivial) | omega | rfl)); conv => whnf)
     | (refine Pick.mk ?_ ?_ ?_; rotate_left; (focus (first | exact htk | with_reducible exact pd | with_reducible exact pe | (simp only [List.length_map, List.length_append, List.length_cons, List.length_nil, List.length_replicate, Nat.zero_add]; rfl) | (simp only [chunks]; rfl) | (refine wid ?_ ?_ <;> omega) | (refine SlOf.full ?_; first | (simp; done) | (simp; omega)))); conv => whnf)
     | (refine SeqJ.thru ?_; conv => whnf)
     | (refine br_dec (fun _ => ?_) (fun _ => ?_) <;> first | (exfalso; omega) | contradiction | conv => whnf)
     | (refine br_not ?_; conv => whnf)
     | (refine br_bne (fun _ => ?_) (fun _ => ?_) <;> first | (exfalso; omega) | contradiction | conv => whnf)
     | (refine br_beq (fun _ => ?_) (fun _ => ?_) <;> first | (exfalso; omega) | contradiction | conv => whnf))
    refine Pick.mk (a + 1) (by constructor <;> first | omega | (simp only []; omega)) (LeX.of ?_)
    try (conv => whnf)
    repeat (refine Need.mk ?_ ?_; (focus (first | omega | (simp; done))); conv => whnf)
    trivial
   ·have hta : (D.take a).map inD = D.map inD := by rw [List.take_of_length_le (by omega)]
    have hal : (D.take a).length = a := by simp; omega
    try (conv => whnf)
    repeat' (first
     | (refine Need.mk ?_ ?_; (focus ((simp only [List.length_map, List.length_append, List.length_cons, List.length_nil, List.length_replicate]; omega))); conv => whnf)
     | (refine Pick.mk ?_ ?_ ?_; rotate_left; (focus (first | (simp only [List.length_map, List.length_append, List.length_cons, List.length_nil, List.length_replicate, Nat.zero_add]; rfl) | (simp only [chunks]; rfl) | (refine wid ?_ ?_ <;> omega) | (refine SlOf.full ?_; first | (simp; done) | (simp; omega)) | (refine SlF.self _ _ ?_ ?_; (first | rfl | omega | (simp; done) | (simp; omega)); (exact fun _ => rfl)) | ((fail_if_success (show @Eq (Option _) _ _)); rfl))); conv => whnf)
     | (refine OwnQ.mk false ?_; conv => whnf)
     | (refine SeqJ.thru ?_; conv => whnf)
     | (refine br_dec (fun _ => ?_) (fun _ => ?_) <;> first | (exfalso; omega) | contradiction | conv => whnf)
     | (refine br_not ?_; conv => whnf)
     | (refine br_bne (fun _ => ?_) (fun _ => ?_) <;> first | (exfalso; omega) | contradiction | conv => whnf)
     | (refine br_beq (fun _ => ?_) (fun _ => ?_) <;> first | (exfalso; omega) | contradiction | conv => whnf))
    refine hQ _ o hlog (LeX.of ?_)
    try (conv => whnf)
    repeat (refine Need.mk ?_ ?_; (focus (first | omega | (simp; done))); conv => whnf)
    refine Need.mk (by rw [hta, hoo, List.map_append]; rfl) ?_
    try (conv => whnf)
    trivial
end Go.Proofs.Ytpdjehnlejjfmaa.D
