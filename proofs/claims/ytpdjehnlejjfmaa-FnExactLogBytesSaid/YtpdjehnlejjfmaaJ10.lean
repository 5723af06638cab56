/- A log taken apart by the program. -/
import Derived.WalkKit
import Derived.ProofKit
import Derived.OpenShut
import Derived.ShutString
import Derived.ChangeOld
import Derived.Below
import Derived.SizedLaws
import Derived.ChangeSlices
import Derived.SliceStrings
import Derived.Test.YtpdjehnlejjfmaaJ9
namespace Go.Proofs.Ytpdjehnlejjfmaa.D
open Go.RowKit
set_option maxRecDepth 100000
set_option maxHeartbeats 4000000
set_option linter.unusedVariables false
set_option linter.unusedSimpArgs false

abbrev vBook : SV := .tup [(false, [.ep (.v 0) 120 0 0]), (false, [cB true])]
abbrev vNoBook : SV := .tup [(false, [.dv (.sc (.pointer none))]), (false, [cB false])]
def ReadPost (l : List OpV) (res : SV) (Lo : List Row) : Prop := (LogOk l ∧ res = vBook ∧ Lo = [.own 120 [bookD (bookOf l)]]) ∨ (¬ LogOk l ∧ res = vNoBook ∧ Lo = [])
theorem bookOf_own {l : List OpV} (h : ∀ o ∈ l, OpOk o) {a : Int} (ha : actOk a) : (bookOf l).of.getD a.toNat [] = own l a := by
  obtain ⟨a0, a1⟩ := ha
  rw [book_of (by omega) l h, show ((a.toNat : Nat) : Int) = a by omega]
theorem i_readBook (l : List OpV) (hw : ∀ o ∈ l, o.key.length ≤ 2 ^ 40 ∧ o.text.length ≤ 2 ^ 40) : CallM Try.prog id_impl_readBook [vL l] [] [] false (ReadPost l) := by
  refine F_impl_readBook ?_
  try (conv => whnf)
  repeat' (first
    | (refine Pick.mk ?_ ?_ ?_; rotate_left; (focus (exact List.length_map _)); conv => whnf)
    | (refine SeqJ.thru ?_; conv => whnf)
    | (refine br_dec (fun _ => ?_) (fun _ => ?_) <;> first | (exfalso; omega) | contradiction | conv => whnf)
    | (refine br_not ?_; conv => whnf)
    | (refine br_bne (fun _ => ?_) (fun _ => ?_) <;> first | (exfalso; omega) | contradiction | conv => whnf)
    | (refine br_beq (fun _ => ?_) (fun _ => ?_) <;> first | (exfalso; omega) | contradiction | conv => whnf))
  · rename_i hlen
    refine Out.mk false [0, 1, 2, 3, 4] [] ?_
    try (conv => whnf)
    exact ⟨.inr ⟨fun h => by have := h.len; omega, rfl, rfl⟩⟩
  · rename_i hlen
    refine LoopE.mk (fun i : Nat => mk [(0, vL l), (16, vL l), (17, vI .i64 l.length), (18, vI .i64 i), (4, .one (.ep (.v 16400) 120 0 0))] [(16400, .own 120 [bookD (bookOf (l.take i))])])
      (fun i => i ≤ l.length ∧ Good1 l i ∧ SameTh thI (l.take i)) (fun i => l.length - i) 0 ⟨by omega, Good1.zero l, fun a ha => by simp at ha⟩ (LeX.of ?_) ?_
    · try (conv => whnf)
      repeat (refine Need.mk ?_ ?_; (focus (first | omega | (simp; done) | rfl)); conv => whnf)
      trivial
    · rintro i ⟨hi, hg, hs⟩
      try (conv => whnf)
      repeat' (first
        | (refine Pick.mk ?_ ?_ ?_; rotate_left; (focus (first | exact List.length_map _ | (refine pick_nat _ _ _ ?_; omega))); conv => whnf)
        | (refine SeqJ.thru ?_; conv => whnf)
        | (refine br_dec (fun _ => ?_) (fun _ => ?_) <;> first | (exfalso; omega) | contradiction | conv => whnf)
        | (refine br_not ?_; conv => whnf)
        | (refine br_bne (fun _ => ?_) (fun _ => ?_) <;> first | (exfalso; omega) | contradiction | conv => whnf)
        | (refine br_beq (fun _ => ?_) (fun _ => ?_) <;> first | (exfalso; omega) | contradiction | conv => whnf))
      · have hlt : i < l.length := by omega
        obtain ⟨hk, ht⟩ := hw _ (List.getElem_mem hlt)
        by_cases hok : OpOk l[i]
        · obtain ⟨a0, a1⟩ := hok.st.2
          have hob := hok.obj
          have e1 := bookOf_own hg.ok ⟨a0, a1⟩
          have e2 : ((bookOf (l.take i)).of.getD l[i].actor.toNat []).length ≤ 1024 := by
            rw [e1]; exact Nat.le_trans (own_le _ _) (by simp; omega)
          have wf := bookOf_wf (l.take i)
          have ep : ((i : Int) - 1).toNat = i - 1 := by omega
          refine Hand.mk [] ?_
          try (conv => whnf)
          refine CallW.d (i_opOK l[i] hk ht) ?_
          try (conv => whnf)
          try (conv => whnf)
          repeat' (first
            | (refine Need.mk ?_ ?_; (focus (first | omega | ((conv => whnf); (repeat (first | (refine Need.mk (by first | rfl | omega | (simp; done)) ?_; conv => whnf) | (refine Pick.mk ?_ ?_ ?_; rotate_left; (focus (first | with_reducible exact xor_u8 _ _ | (with_reducible refine xor_i64 ?_ ?_; all_goals omega) | (with_reducible refine xor_u32 ?_ ?_; all_goals omega) | (refine bk_top ?_; assumption) | (with_reducible refine bk_size ?_; assumption) | (with_reducible refine bk_kd ?_ ?_ <;> first | assumption | omega) | (with_reducible refine bk_of ?_ ?_ <;> first | assumption | omega) | assumption | with_reducible exact set_byN _ _ _ _ | with_reducible exact set_byI _ _ _ _ | with_reducible exact set_inN _ _ _ _ | with_reducible exact set_inI _ _ _ _ | with_reducible exact set_stN _ _ _ _ | with_reducible exact set_tsN _ _ _ _ | with_reducible exact set_tsI _ _ _ _ | with_reducible exact set_boN _ _ _ _ | with_reducible exact set_boI _ _ _ _ | (with_reducible refine get_mapN _ _ _ ?_; first | omega | (simp; omega)) | (with_reducible refine get_mapI _ _ _ ?_ ?_ <;> first | omega | (simp; omega)) | exact bs_beq _ _ | exact bs_less _ _ | exact bs_leq _ _ | with_reducible exact bs_app _ _ | (refine bs_get _ _ ?_; omega) | (refine bs_int _ _ ?_ ?_ <;> omega) | with_reducible exact sl_map0 _ _ _ | with_reducible exact sl_mapN _ _ _ | with_reducible exact sl_map _ _ _ _ | exact bs_extract0 _ _ | exact bs_extractN _ _ | exact bs_extract _ _ _ | (refine bnd_id ?_; omega) | (refine bnd_sub ?_ ?_ <;> omega) | (refine bnd_add ?_; omega) | (refine bnd_subN ?_ ?_ <;> omega) | (refine bnd_int ?_ ?_ <;> omega) | ((show @Eq Nat (_ + Int.toNat _ * _) _); simp only [Int.toNat_natCast, Nat.zero_add, Nat.mul_one]; rfl) | ((show @Eq (List _) (List.set [_] _ _) _); simp only [List.set_cons_zero]; rfl) | exact List.length_map _ | exact size_bs _ | (simp only [List.length_map, List.length_append, List.length_cons, List.length_nil, List.length_replicate, Nat.zero_add]; rfl) | with_reducible exact List.nil_append _ | with_reducible exact map_app _ _ _ | exact map_snoc byD _ _ | exact map_snoc inD _ _ | exact map_snoc stD _ _ | exact map_snoc tsD _ _ | (simp only [chunks]; rfl) | (refine wid ?_ ?_ <;> omega) | exact wby _ | with_reducible exact wby32 _ | with_reducible exact wu32 _ | exact wby64 _ | exact shr8 _ | exact shr16 _ | exact shr24 _ | exact shr32 _ | (refine tmodn ?_; omega) | (refine wdiv ?_ ?_ ?_ <;> omega) | exact wbyte _ | exact natlit _ | exact rep_by _ | exact rep_in _ | exact rep_bo _ | exact rep_st _ | (refine pick_nat _ _ _ ?_; omega) | (refine pick_int _ _ _ ?_ ?_ <;> omega) | (refine SlOf.full ?_; first | (simp; done) | (simp; omega)) | (with_reducible refine SlOf.pre _ _ ?_; first | omega | (simp; omega)) | (refine SlF.self _ _ ?_ ?_; (first | rfl | omega | (simp; done) | (simp; omega)); (exact fun _ => rfl)) | (refine SlF.pre _ _ ?_ ?_; (first | omega | (simp; omega)); (exact fun _ => rfl)) | (refine SlF.same ?_ ?_; (first | rfl | omega | (simp; done) | (simp; omega)); (first | exact fz_self _ _ (fun _ => rfl) | exact fz_pl rfl | (refine Fz.append ?_ ?_ <;> first | exact fz_self _ _ (fun _ => rfl) | exact fz_pl rfl) | (refine Fz.append (Fz.append ?_ ?_) ?_ <;> first | exact fz_self _ _ (fun _ => rfl) | exact fz_pl rfl))) | (simp only [Int.toNat_natCast, Nat.zero_add, Nat.mul_one]; rfl) | ((fail_if_success (show @Eq (Option _) _ _)); rfl) | ((show @Eq (Option _) _ _); simp only [List.getElem?_cons_zero, List.getElem?_cons_succ]; done) | ((show @Eq (Option _) _ _); simp only [List.getElem?_cons_zero, List.getElem?_cons_succ]; rfl) | with_reducible rfl)); conv => whnf))); exact Done.mk trivial))); conv => whnf)
            | (refine Pick.mk ?_ ?_ ?_; rotate_left; (focus (first | (with_reducible refine bk_kd ?_ ?_ <;> first | assumption | omega) | (with_reducible refine bk_of ?_ ?_ <;> first | assumption | omega) | ((show @Eq Nat (_ + Int.toNat _ * _) _); simp only [Int.toNat_natCast, Nat.zero_add, Nat.mul_one]; rfl) | (refine wid ?_ ?_ <;> omega) | (refine pick_int _ _ _ ?_ ?_ <;> omega) | ((show @Eq (Option _) _ _); simp only [List.getElem?_cons_zero, List.getElem?_cons_succ]; rfl))); conv => whnf)
            | (refine SeqJ.thru ?_; conv => whnf)
            | (refine br_dec (fun _ => ?_) (fun _ => ?_) <;> first | (exfalso; omega) | contradiction | conv => whnf)
            | (refine br_not ?_; conv => whnf)
            | (refine br_bne (fun _ => ?_) (fun _ => ?_) <;> first | (exfalso; omega) | contradiction | conv => whnf)
            | (refine br_beq (fun _ => ?_) (fun _ => ?_) <;> first | (exfalso; omega) | contradiction | conv => whnf))
          · refine Out.mk false [0, 1, 2, 3, 4] [] ?_
            try (conv => whnf)
            exact ⟨.inr ⟨fun h => by have := (h.good.at hlt).2.1 (by omega); simp only [ep] at *; omega, rfl, rfl⟩⟩
          · have hsame : ∀ a ∈ l.take i, a.obj = l[i].obj → thI a.kind = thI l[i].kind := (kd_iff (fun k => thI_ne) hg.ok hs hok).1 (by rw [← book_kd]; first | exact .inl (by assumption) | exact .inr (by omega))
            refine Hand.mk [] ?_
            try (conv => whnf)
            refine CallW.k (i_put (bookOf (l.take i)) wf l[i] ⟨a0, a1⟩ hob (by omega) (by rw [book_size]; simp; omega)) ?_
            try (conv => whnf)
            repeat (refine Pick.mk ?_ ?_ ?_; rotate_left; (focus ((refine wid ?_ ?_ <;> omega))); conv => whnf)
            refine Pick.mk (i + 1) ⟨⟨by omega, Good1.step hlt hg hok (fun _ => by simp only [ep] at *; omega) (by rw [← e1]; omega), by rw [List.take_succ_eq_append_getElem hlt]; exact hs.snoc hsame⟩, by omega⟩ (LeX.of ?_)
            try (conv => whnf)
            repeat (refine Need.mk ?_ ?_; (focus (first | omega | (simp; done) | rfl)); conv => whnf)
            refine Need.mk (by rw [bookOf_take hlt]) ?_
            try (conv => whnf)
            trivial
          · refine Hand.mk [] ?_
            try (conv => whnf)
            refine CallW.d (i_thing l[i]) ?_
            try (conv => whnf)
            repeat (refine Need.mk ?_ ?_; (focus (((conv => whnf); (repeat (first | (refine Need.mk (by first | rfl | omega | (simp; done)) ?_; conv => whnf) | (refine Pick.mk ?_ ?_ ?_; rotate_left; (focus (first | with_reducible exact xor_u8 _ _ | (with_reducible refine xor_i64 ?_ ?_; all_goals omega) | (with_reducible refine xor_u32 ?_ ?_; all_goals omega) | (refine bk_top ?_; assumption) | (with_reducible refine bk_size ?_; assumption) | (with_reducible refine bk_kd ?_ ?_ <;> first | assumption | omega) | (with_reducible refine bk_of ?_ ?_ <;> first | assumption | omega) | assumption | with_reducible exact set_byN _ _ _ _ | with_reducible exact set_byI _ _ _ _ | with_reducible exact set_inN _ _ _ _ | with_reducible exact set_inI _ _ _ _ | with_reducible exact set_stN _ _ _ _ | with_reducible exact set_tsN _ _ _ _ | with_reducible exact set_tsI _ _ _ _ | with_reducible exact set_boN _ _ _ _ | with_reducible exact set_boI _ _ _ _ | (with_reducible refine get_mapN _ _ _ ?_; first | omega | (simp; omega)) | (with_reducible refine get_mapI _ _ _ ?_ ?_ <;> first | omega | (simp; omega)) | exact bs_beq _ _ | exact bs_less _ _ | exact bs_leq _ _ | with_reducible exact bs_app _ _ | (refine bs_get _ _ ?_; omega) | (refine bs_int _ _ ?_ ?_ <;> omega) | with_reducible exact sl_map0 _ _ _ | with_reducible exact sl_mapN _ _ _ | with_reducible exact sl_map _ _ _ _ | exact bs_extract0 _ _ | exact bs_extractN _ _ | exact bs_extract _ _ _ | (refine bnd_id ?_; omega) | (refine bnd_sub ?_ ?_ <;> omega) | (refine bnd_add ?_; omega) | (refine bnd_subN ?_ ?_ <;> omega) | (refine bnd_int ?_ ?_ <;> omega) | ((show @Eq Nat (_ + Int.toNat _ * _) _); simp only [Int.toNat_natCast, Nat.zero_add, Nat.mul_one]; rfl) | ((show @Eq (List _) (List.set [_] _ _) _); simp only [List.set_cons_zero]; rfl) | exact List.length_map _ | exact size_bs _ | (simp only [List.length_map, List.length_append, List.length_cons, List.length_nil, List.length_replicate, Nat.zero_add]; rfl) | with_reducible exact List.nil_append _ | with_reducible exact map_app _ _ _ | exact map_snoc byD _ _ | exact map_snoc inD _ _ | exact map_snoc stD _ _ | exact map_snoc tsD _ _ | (simp only [chunks]; rfl) | (refine wid ?_ ?_ <;> omega) | exact wby _ | with_reducible exact wby32 _ | with_reducible exact wu32 _ | exact wby64 _ | exact shr8 _ | exact shr16 _ | exact shr24 _ | exact shr32 _ | (refine tmodn ?_; omega) | (refine wdiv ?_ ?_ ?_ <;> omega) | exact wbyte _ | exact natlit _ | exact rep_by _ | exact rep_in _ | exact rep_bo _ | exact rep_st _ | (refine pick_nat _ _ _ ?_; omega) | (refine pick_int _ _ _ ?_ ?_ <;> omega) | (refine SlOf.full ?_; first | (simp; done) | (simp; omega)) | (with_reducible refine SlOf.pre _ _ ?_; first | omega | (simp; omega)) | (refine SlF.self _ _ ?_ ?_; (first | rfl | omega | (simp; done) | (simp; omega)); (exact fun _ => rfl)) | (refine SlF.pre _ _ ?_ ?_; (first | omega | (simp; omega)); (exact fun _ => rfl)) | (refine SlF.same ?_ ?_; (first | rfl | omega | (simp; done) | (simp; omega)); (first | exact fz_self _ _ (fun _ => rfl) | exact fz_pl rfl | (refine Fz.append ?_ ?_ <;> first | exact fz_self _ _ (fun _ => rfl) | exact fz_pl rfl) | (refine Fz.append (Fz.append ?_ ?_) ?_ <;> first | exact fz_self _ _ (fun _ => rfl) | exact fz_pl rfl))) | (simp only [Int.toNat_natCast, Nat.zero_add, Nat.mul_one]; rfl) | ((fail_if_success (show @Eq (Option _) _ _)); rfl) | ((show @Eq (Option _) _ _); simp only [List.getElem?_cons_zero, List.getElem?_cons_succ]; done) | ((show @Eq (Option _) _ _); simp only [List.getElem?_cons_zero, List.getElem?_cons_succ]; rfl) | with_reducible rfl)); conv => whnf))); exact Done.mk trivial))); conv => whnf)
            try (conv => whnf)
            repeat' (first
              | (refine br_dec (fun _ => ?_) (fun _ => ?_) <;> first | (exfalso; omega) | contradiction | conv => whnf)
              | (refine br_not ?_; conv => whnf)
              | (refine br_bne (fun _ => ?_) (fun _ => ?_) <;> first | (exfalso; omega) | contradiction | conv => whnf)
              | (refine br_beq (fun _ => ?_) (fun _ => ?_) <;> first | (exfalso; omega) | contradiction | conv => whnf))
            rotate_left
            · refine Out.mk false [0, 1, 2, 3, 4] [] ?_
              try (conv => whnf)
              exact ⟨.inr ⟨fun h => by
                have := (kd_iff (fun k => thI_ne) hg.ok hs hok).2 (SameTh.of_snoc (h.same.sub (m := l.take i ++ [l[i]]) (fun o ho => by rw [← List.take_succ_eq_append_getElem hlt] at ho; exact List.mem_of_mem_take ho)))
                rw [← book_kd] at this; omega, rfl, rfl⟩⟩
            · have hsame : ∀ a ∈ l.take i, a.obj = l[i].obj → thI a.kind = thI l[i].kind := (kd_iff (fun k => thI_ne) hg.ok hs hok).1 (by rw [← book_kd]; first | exact .inl (by assumption) | exact .inr (by omega))
              refine Hand.mk [] ?_
              try (conv => whnf)
              refine CallW.k (i_put (bookOf (l.take i)) wf l[i] ⟨a0, a1⟩ hob (by omega) (by rw [book_size]; simp; omega)) ?_
              try (conv => whnf)
              repeat (refine Pick.mk ?_ ?_ ?_; rotate_left; (focus ((refine wid ?_ ?_ <;> omega))); conv => whnf)
              refine Pick.mk (i + 1) ⟨⟨by omega, Good1.step hlt hg hok (fun _ => by simp only [ep] at *; omega) (by rw [← e1]; omega), by rw [List.take_succ_eq_append_getElem hlt]; exact hs.snoc hsame⟩, by omega⟩ (LeX.of ?_)
              try (conv => whnf)
              repeat (refine Need.mk ?_ ?_; (focus (first | omega | (simp; done) | rfl)); conv => whnf)
              refine Need.mk (by rw [bookOf_take hlt]) ?_
              try (conv => whnf)
              trivial
          · refine Out.mk false [0, 1, 2, 3, 4] [] ?_
            try (conv => whnf)
            exact ⟨.inr ⟨fun h => by have := (h.good.at hlt).2.2; rw [← e1] at this; omega, rfl, rfl⟩⟩
          · have hsame : ∀ a ∈ l.take i, a.obj = l[i].obj → thI a.kind = thI l[i].kind := (kd_iff (fun k => thI_ne) hg.ok hs hok).1 (by rw [← book_kd]; first | exact .inl (by assumption) | exact .inr (by omega))
            refine Hand.mk [] ?_
            try (conv => whnf)
            refine CallW.k (i_put (bookOf (l.take i)) wf l[i] ⟨a0, a1⟩ hob (by omega) (by rw [book_size]; simp; omega)) ?_
            try (conv => whnf)
            repeat (refine Pick.mk ?_ ?_ ?_; rotate_left; (focus ((refine wid ?_ ?_ <;> omega))); conv => whnf)
            refine Pick.mk (i + 1) ⟨⟨by omega, Good1.step hlt hg hok (fun _ => by simp only [ep] at *; omega) (by rw [← e1]; omega), by rw [List.take_succ_eq_append_getElem hlt]; exact hs.snoc hsame⟩, by omega⟩ (LeX.of ?_)
            try (conv => whnf)
            repeat (refine Need.mk ?_ ?_; (focus (first | omega | (simp; done) | rfl)); conv => whnf)
            refine Need.mk (by rw [bookOf_take hlt]) ?_
            try (conv => whnf)
            trivial
          · refine Hand.mk [] ?_
            try (conv => whnf)
            refine CallW.d (i_thing l[i]) ?_
            try (conv => whnf)
            repeat (refine Need.mk ?_ ?_; (focus (((conv => whnf); (repeat (first | (refine Need.mk (by first | rfl | omega | (simp; done)) ?_; conv => whnf) | (refine Pick.mk ?_ ?_ ?_; rotate_left; (focus (first | with_reducible exact xor_u8 _ _ | (with_reducible refine xor_i64 ?_ ?_; all_goals omega) | (with_reducible refine xor_u32 ?_ ?_; all_goals omega) | (refine bk_top ?_; assumption) | (with_reducible refine bk_size ?_; assumption) | (with_reducible refine bk_kd ?_ ?_ <;> first | assumption | omega) | (with_reducible refine bk_of ?_ ?_ <;> first | assumption | omega) | assumption | with_reducible exact set_byN _ _ _ _ | with_reducible exact set_byI _ _ _ _ | with_reducible exact set_inN _ _ _ _ | with_reducible exact set_inI _ _ _ _ | with_reducible exact set_stN _ _ _ _ | with_reducible exact set_tsN _ _ _ _ | with_reducible exact set_tsI _ _ _ _ | with_reducible exact set_boN _ _ _ _ | with_reducible exact set_boI _ _ _ _ | (with_reducible refine get_mapN _ _ _ ?_; first | omega | (simp; omega)) | (with_reducible refine get_mapI _ _ _ ?_ ?_ <;> first | omega | (simp; omega)) | exact bs_beq _ _ | exact bs_less _ _ | exact bs_leq _ _ | with_reducible exact bs_app _ _ | (refine bs_get _ _ ?_; omega) | (refine bs_int _ _ ?_ ?_ <;> omega) | with_reducible exact sl_map0 _ _ _ | with_reducible exact sl_mapN _ _ _ | with_reducible exact sl_map _ _ _ _ | exact bs_extract0 _ _ | exact bs_extractN _ _ | exact bs_extract _ _ _ | (refine bnd_id ?_; omega) | (refine bnd_sub ?_ ?_ <;> omega) | (refine bnd_add ?_; omega) | (refine bnd_subN ?_ ?_ <;> omega) | (refine bnd_int ?_ ?_ <;> omega) | ((show @Eq Nat (_ + Int.toNat _ * _) _); simp only [Int.toNat_natCast, Nat.zero_add, Nat.mul_one]; rfl) | ((show @Eq (List _) (List.set [_] _ _) _); simp only [List.set_cons_zero]; rfl) | exact List.length_map _ | exact size_bs _ | (simp only [List.length_map, List.length_append, List.length_cons, List.length_nil, List.length_replicate, Nat.zero_add]; rfl) | with_reducible exact List.nil_append _ | with_reducible exact map_app _ _ _ | exact map_snoc byD _ _ | exact map_snoc inD _ _ | exact map_snoc stD _ _ | exact map_snoc tsD _ _ | (simp only [chunks]; rfl) | (refine wid ?_ ?_ <;> omega) | exact wby _ | with_reducible exact wby32 _ | with_reducible exact wu32 _ | exact wby64 _ | exact shr8 _ | exact shr16 _ | exact shr24 _ | exact shr32 _ | (refine tmodn ?_; omega) | (refine wdiv ?_ ?_ ?_ <;> omega) | exact wbyte _ | exact natlit _ | exact rep_by _ | exact rep_in _ | exact rep_bo _ | exact rep_st _ | (refine pick_nat _ _ _ ?_; omega) | (refine pick_int _ _ _ ?_ ?_ <;> omega) | (refine SlOf.full ?_; first | (simp; done) | (simp; omega)) | (with_reducible refine SlOf.pre _ _ ?_; first | omega | (simp; omega)) | (refine SlF.self _ _ ?_ ?_; (first | rfl | omega | (simp; done) | (simp; omega)); (exact fun _ => rfl)) | (refine SlF.pre _ _ ?_ ?_; (first | omega | (simp; omega)); (exact fun _ => rfl)) | (refine SlF.same ?_ ?_; (first | rfl | omega | (simp; done) | (simp; omega)); (first | exact fz_self _ _ (fun _ => rfl) | exact fz_pl rfl | (refine Fz.append ?_ ?_ <;> first | exact fz_self _ _ (fun _ => rfl) | exact fz_pl rfl) | (refine Fz.append (Fz.append ?_ ?_) ?_ <;> first | exact fz_self _ _ (fun _ => rfl) | exact fz_pl rfl))) | (simp only [Int.toNat_natCast, Nat.zero_add, Nat.mul_one]; rfl) | ((fail_if_success (show @Eq (Option _) _ _)); rfl) | ((show @Eq (Option _) _ _); simp only [List.getElem?_cons_zero, List.getElem?_cons_succ]; done) | ((show @Eq (Option _) _ _); simp only [List.getElem?_cons_zero, List.getElem?_cons_succ]; rfl) | with_reducible rfl)); conv => whnf))); exact Done.mk trivial))); conv => whnf)
            try (conv => whnf)
            repeat' (first
              | (refine br_dec (fun _ => ?_) (fun _ => ?_) <;> first | (exfalso; omega) | contradiction | conv => whnf)
              | (refine br_not ?_; conv => whnf)
              | (refine br_bne (fun _ => ?_) (fun _ => ?_) <;> first | (exfalso; omega) | contradiction | conv => whnf)
              | (refine br_beq (fun _ => ?_) (fun _ => ?_) <;> first | (exfalso; omega) | contradiction | conv => whnf))
            rotate_left
            · refine Out.mk false [0, 1, 2, 3, 4] [] ?_
              try (conv => whnf)
              exact ⟨.inr ⟨fun h => by
                have := (kd_iff (fun k => thI_ne) hg.ok hs hok).2 (SameTh.of_snoc (h.same.sub (m := l.take i ++ [l[i]]) (fun o ho => by rw [← List.take_succ_eq_append_getElem hlt] at ho; exact List.mem_of_mem_take ho)))
                rw [← book_kd] at this; omega, rfl, rfl⟩⟩
            · have hsame : ∀ a ∈ l.take i, a.obj = l[i].obj → thI a.kind = thI l[i].kind := (kd_iff (fun k => thI_ne) hg.ok hs hok).1 (by rw [← book_kd]; first | exact .inl (by assumption) | exact .inr (by omega))
              refine Hand.mk [] ?_
              try (conv => whnf)
              refine CallW.k (i_put (bookOf (l.take i)) wf l[i] ⟨a0, a1⟩ hob (by omega) (by rw [book_size]; simp; omega)) ?_
              try (conv => whnf)
              repeat (refine Pick.mk ?_ ?_ ?_; rotate_left; (focus ((refine wid ?_ ?_ <;> omega))); conv => whnf)
              refine Pick.mk (i + 1) ⟨⟨by omega, Good1.step hlt hg hok (fun _ => by simp only [ep] at *; omega) (by rw [← e1]; omega), by rw [List.take_succ_eq_append_getElem hlt]; exact hs.snoc hsame⟩, by omega⟩ (LeX.of ?_)
              try (conv => whnf)
              repeat (refine Need.mk ?_ ?_; (focus (first | omega | (simp; done) | rfl)); conv => whnf)
              refine Need.mk (by rw [bookOf_take hlt]) ?_
              try (conv => whnf)
              trivial
          · refine Out.mk false [0, 1, 2, 3, 4] [] ?_
            try (conv => whnf)
            exact ⟨.inr ⟨fun h => by have := (h.good.at hlt).2.2; rw [← e1] at this; omega, rfl, rfl⟩⟩
        · refine Hand.mk [] ?_
          try (conv => whnf)
          refine CallW.d (i_opOK l[i] hk ht) ?_
          try (conv => whnf)
          try (conv => whnf)
          repeat' (first
            | (refine br_dec (fun _ => ?_) (fun _ => ?_) <;> first | (exfalso; omega) | contradiction | conv => whnf)
            | (refine br_not ?_; conv => whnf)
            | (refine br_bne (fun _ => ?_) (fun _ => ?_) <;> first | (exfalso; omega) | contradiction | conv => whnf)
            | (refine br_beq (fun _ => ?_) (fun _ => ?_) <;> first | (exfalso; omega) | contradiction | conv => whnf))
          refine Out.mk false [0, 1, 2, 3, 4] [] ?_
          try (conv => whnf)
          exact ⟨.inr ⟨fun h => hok (h.good.at hlt).1, rfl, rfl⟩⟩
      · have e : l.take i = l := List.take_of_length_le (by omega)
        have hgl : Good1 l l.length := by
          have e9 : i = l.length := by omega
          rwa [e9] at hg
        have hsl : SameTh thI l := by rwa [e] at hs
        have wf := bookOf_wf l
        refine LoopE.mk (fun i : Nat => mk [(0, vL l), (79, vL l), (80, vI .i64 l.length), (81, vI .i64 i), (4, .one (.ep (.v 16400) 120 0 0))] [(16400, .own 120 [bookD (bookOf l)])])
          (fun i => i ≤ l.length ∧ ∀ o ∈ l.take i, Cause l o) (fun i => l.length - i) 0 ⟨by omega, by simp⟩ (LeX.of ?_) ?_
        · try (conv => whnf)
          repeat (refine Need.mk ?_ ?_; (focus (first | omega | (simp; done))); conv => whnf)
          refine Need.mk (by rw [e]) ?_
          try (conv => whnf)
          trivial
        · rintro i ⟨hi, hc⟩
          try (conv => whnf)
          repeat' (first
            | (refine Pick.mk ?_ ?_ ?_; rotate_left; (focus (first | exact List.length_map _ | (refine pick_nat _ _ _ ?_; omega))); conv => whnf)
            | (refine SeqJ.thru ?_; conv => whnf)
            | (refine br_dec (fun _ => ?_) (fun _ => ?_) <;> first | (exfalso; omega) | contradiction | conv => whnf)
            | (refine br_not ?_; conv => whnf)
            | (refine br_bne (fun _ => ?_) (fun _ => ?_) <;> first | (exfalso; omega) | contradiction | conv => whnf)
            | (refine br_beq (fun _ => ?_) (fun _ => ?_) <;> first | (exfalso; omega) | contradiction | conv => whnf))
          · have hlt : i < l.length := by omega
            have hok := (hgl.at hlt).1
            have hvl := hok.vec.1
            refine LoopE.mk (fun j : Nat => mk [(0, vL l), (87, vN l[i].deps), (88, vI .i64 l[i].deps.length), (89, vI .i64 j), (8, .one (.ptr 65568 0)), (79, vL l), (80, vI .i64 l.length), (81, vI .i64 i), (4, .one (.ep (.v 16400) 120 0 0))] [(16400, .own 120 [bookD (bookOf l)]), (65568, .box (opC l[i]))])
              (fun j => j ≤ l[i].deps.length ∧ ∀ a : Nat, a < j → CauseAt l l[i] a) (fun j => l[i].deps.length - j) 0 ⟨by omega, fun a h => by omega⟩ (LeX.of ?_) ?_
            · try (conv => whnf)
              repeat (refine Need.mk ?_ ?_; (focus (first | omega | (simp; done))); conv => whnf)
              trivial
            · rintro j ⟨hj, hca⟩
              by_cases hjl : j < l[i].deps.length
              · have e1 := book_of (a := j) (by omega) l hgl.all
                have e3 : l[i].deps.getD j 0 = l[i].deps[j] := by simp [List.getD, hjl]
                obtain ⟨c0, c1⟩ := hok.vec.2 _ (List.getElem_mem hjl)
                have step : CauseAt l l[i] j → ∀ a : Nat, a < j + 1 → CauseAt l l[i] a := fun h a ha => by
                  rcases Nat.lt_or_ge a j with g | g
                  · exact hca a g
                  · obtain rfl : a = j := by omega
                    exact h
                try (conv => whnf)
                repeat' (first
                  | (refine Need.mk ?_ ?_; (focus (first | omega | ((conv => whnf); (repeat (first | (refine Need.mk (by first | rfl | omega | (simp; done)) ?_; conv => whnf) | (refine Pick.mk ?_ ?_ ?_; rotate_left; (focus (first | with_reducible exact xor_u8 _ _ | (with_reducible refine xor_i64 ?_ ?_; all_goals omega) | (with_reducible refine xor_u32 ?_ ?_; all_goals omega) | (refine bk_top ?_; assumption) | (with_reducible refine bk_size ?_; assumption) | (with_reducible refine bk_kd ?_ ?_ <;> first | assumption | omega) | (with_reducible refine bk_of ?_ ?_ <;> first | assumption | omega) | assumption | with_reducible exact set_byN _ _ _ _ | with_reducible exact set_byI _ _ _ _ | with_reducible exact set_inN _ _ _ _ | with_reducible exact set_inI _ _ _ _ | with_reducible exact set_stN _ _ _ _ | with_reducible exact set_tsN _ _ _ _ | with_reducible exact set_tsI _ _ _ _ | with_reducible exact set_boN _ _ _ _ | with_reducible exact set_boI _ _ _ _ | (with_reducible refine get_mapN _ _ _ ?_; first | omega | (simp; omega)) | (with_reducible refine get_mapI _ _ _ ?_ ?_ <;> first | omega | (simp; omega)) | exact bs_beq _ _ | exact bs_less _ _ | exact bs_leq _ _ | with_reducible exact bs_app _ _ | (refine bs_get _ _ ?_; omega) | (refine bs_int _ _ ?_ ?_ <;> omega) | with_reducible exact sl_map0 _ _ _ | with_reducible exact sl_mapN _ _ _ | with_reducible exact sl_map _ _ _ _ | exact bs_extract0 _ _ | exact bs_extractN _ _ | exact bs_extract _ _ _ | (refine bnd_id ?_; omega) | (refine bnd_sub ?_ ?_ <;> omega) | (refine bnd_add ?_; omega) | (refine bnd_subN ?_ ?_ <;> omega) | (refine bnd_int ?_ ?_ <;> omega) | ((show @Eq Nat (_ + Int.toNat _ * _) _); simp only [Int.toNat_natCast, Nat.zero_add, Nat.mul_one]; rfl) | ((show @Eq (List _) (List.set [_] _ _) _); simp only [List.set_cons_zero]; rfl) | exact List.length_map _ | exact size_bs _ | (simp only [List.length_map, List.length_append, List.length_cons, List.length_nil, List.length_replicate, Nat.zero_add]; rfl) | with_reducible exact List.nil_append _ | with_reducible exact map_app _ _ _ | exact map_snoc byD _ _ | exact map_snoc inD _ _ | exact map_snoc stD _ _ | exact map_snoc tsD _ _ | (simp only [chunks]; rfl) | (refine wid ?_ ?_ <;> omega) | exact wby _ | with_reducible exact wby32 _ | with_reducible exact wu32 _ | exact wby64 _ | exact shr8 _ | exact shr16 _ | exact shr24 _ | exact shr32 _ | (refine tmodn ?_; omega) | (refine wdiv ?_ ?_ ?_ <;> omega) | exact wbyte _ | exact natlit _ | exact rep_by _ | exact rep_in _ | exact rep_bo _ | exact rep_st _ | (refine pick_nat _ _ _ ?_; omega) | (refine pick_int _ _ _ ?_ ?_ <;> omega) | (refine SlOf.full ?_; first | (simp; done) | (simp; omega)) | (with_reducible refine SlOf.pre _ _ ?_; first | omega | (simp; omega)) | (refine SlF.self _ _ ?_ ?_; (first | rfl | omega | (simp; done) | (simp; omega)); (exact fun _ => rfl)) | (refine SlF.pre _ _ ?_ ?_; (first | omega | (simp; omega)); (exact fun _ => rfl)) | (refine SlF.same ?_ ?_; (first | rfl | omega | (simp; done) | (simp; omega)); (first | exact fz_self _ _ (fun _ => rfl) | exact fz_pl rfl | (refine Fz.append ?_ ?_ <;> first | exact fz_self _ _ (fun _ => rfl) | exact fz_pl rfl) | (refine Fz.append (Fz.append ?_ ?_) ?_ <;> first | exact fz_self _ _ (fun _ => rfl) | exact fz_pl rfl))) | (simp only [Int.toNat_natCast, Nat.zero_add, Nat.mul_one]; rfl) | ((fail_if_success (show @Eq (Option _) _ _)); rfl) | ((show @Eq (Option _) _ _); simp only [List.getElem?_cons_zero, List.getElem?_cons_succ]; done) | ((show @Eq (Option _) _ _); simp only [List.getElem?_cons_zero, List.getElem?_cons_succ]; rfl) | with_reducible rfl)); conv => whnf))); exact Done.mk trivial))); conv => whnf)
                  | (refine Pick.mk ?_ ?_ ?_; rotate_left; (focus (first | (with_reducible refine bk_of ?_ ?_ <;> first | assumption | omega) | (with_reducible refine get_mapI _ _ _ ?_ ?_ <;> first | omega | (simp; omega)) | ((show @Eq Nat (_ + Int.toNat _ * _) _); simp only [Int.toNat_natCast, Nat.zero_add, Nat.mul_one]; rfl) | (refine wid ?_ ?_ <;> omega) | (refine pick_nat _ _ _ ?_; omega) | ((show @Eq (Option _) _ _); simp only [List.getElem?_cons_zero, List.getElem?_cons_succ]; rfl))); conv => whnf)
                  | (refine SeqJ.thru ?_; conv => whnf)
                  | (refine br_dec (fun _ => ?_) (fun _ => ?_) <;> first | (exfalso; omega) | contradiction | conv => whnf)
                  | (refine br_not ?_; conv => whnf)
                  | (refine br_bne (fun _ => ?_) (fun _ => ?_) <;> first | (exfalso; omega) | contradiction | conv => whnf)
                  | (refine br_beq (fun _ => ?_) (fun _ => ?_) <;> first | (exfalso; omega) | contradiction | conv => whnf))
                · refine Out.mk false [0, 1, 2, 3, 4] [] ?_
                  try (conv => whnf)
                  exact ⟨.inr ⟨fun h => by have := (h.cause _ (List.getElem_mem hlt) j (by omega)).1; rw [e3, ← e1] at this; omega, rfl, rfl⟩⟩
                · have e4 : (own l j)[(l[i].deps.getD j 0 - 1).toNat]? = some (((bookOf l).of.getD j [])[(l[i].deps[j] - 1).toNat]'(by omega)) := by rw [e3, ← e1]; exact List.getElem?_eq_getElem _
                  refine Hand.mk [] ?_
                  try (conv => whnf)
                  refine CallW.d (i_stamp (((bookOf l).of.getD j [])[(l[i].deps[j] - 1).toNat]'(by omega))) ?_
                  try (conv => whnf)
                  repeat (refine Need.mk ?_ ?_; (focus (((conv => whnf); (repeat (first | (refine Need.mk (by first | rfl | omega | (simp; done)) ?_; conv => whnf) | (refine Pick.mk ?_ ?_ ?_; rotate_left; (focus (first | with_reducible exact xor_u8 _ _ | (with_reducible refine xor_i64 ?_ ?_; all_goals omega) | (with_reducible refine xor_u32 ?_ ?_; all_goals omega) | (refine bk_top ?_; assumption) | (with_reducible refine bk_size ?_; assumption) | (with_reducible refine bk_kd ?_ ?_ <;> first | assumption | omega) | (with_reducible refine bk_of ?_ ?_ <;> first | assumption | omega) | assumption | with_reducible exact set_byN _ _ _ _ | with_reducible exact set_byI _ _ _ _ | with_reducible exact set_inN _ _ _ _ | with_reducible exact set_inI _ _ _ _ | with_reducible exact set_stN _ _ _ _ | with_reducible exact set_tsN _ _ _ _ | with_reducible exact set_tsI _ _ _ _ | with_reducible exact set_boN _ _ _ _ | with_reducible exact set_boI _ _ _ _ | (with_reducible refine get_mapN _ _ _ ?_; first | omega | (simp; omega)) | (with_reducible refine get_mapI _ _ _ ?_ ?_ <;> first | omega | (simp; omega)) | exact bs_beq _ _ | exact bs_less _ _ | exact bs_leq _ _ | with_reducible exact bs_app _ _ | (refine bs_get _ _ ?_; omega) | (refine bs_int _ _ ?_ ?_ <;> omega) | with_reducible exact sl_map0 _ _ _ | with_reducible exact sl_mapN _ _ _ | with_reducible exact sl_map _ _ _ _ | exact bs_extract0 _ _ | exact bs_extractN _ _ | exact bs_extract _ _ _ | (refine bnd_id ?_; omega) | (refine bnd_sub ?_ ?_ <;> omega) | (refine bnd_add ?_; omega) | (refine bnd_subN ?_ ?_ <;> omega) | (refine bnd_int ?_ ?_ <;> omega) | ((show @Eq Nat (_ + Int.toNat _ * _) _); simp only [Int.toNat_natCast, Nat.zero_add, Nat.mul_one]; rfl) | ((show @Eq (List _) (List.set [_] _ _) _); simp only [List.set_cons_zero]; rfl) | exact List.length_map _ | exact size_bs _ | (simp only [List.length_map, List.length_append, List.length_cons, List.length_nil, List.length_replicate, Nat.zero_add]; rfl) | with_reducible exact List.nil_append _ | with_reducible exact map_app _ _ _ | exact map_snoc byD _ _ | exact map_snoc inD _ _ | exact map_snoc stD _ _ | exact map_snoc tsD _ _ | (simp only [chunks]; rfl) | (refine wid ?_ ?_ <;> omega) | exact wby _ | with_reducible exact wby32 _ | with_reducible exact wu32 _ | exact wby64 _ | exact shr8 _ | exact shr16 _ | exact shr24 _ | exact shr32 _ | (refine tmodn ?_; omega) | (refine wdiv ?_ ?_ ?_ <;> omega) | exact wbyte _ | exact natlit _ | exact rep_by _ | exact rep_in _ | exact rep_bo _ | exact rep_st _ | (refine pick_nat _ _ _ ?_; omega) | (refine pick_int _ _ _ ?_ ?_ <;> omega) | (refine SlOf.full ?_; first | (simp; done) | (simp; omega)) | (with_reducible refine SlOf.pre _ _ ?_; first | omega | (simp; omega)) | (refine SlF.self _ _ ?_ ?_; (first | rfl | omega | (simp; done) | (simp; omega)); (exact fun _ => rfl)) | (refine SlF.pre _ _ ?_ ?_; (first | omega | (simp; omega)); (exact fun _ => rfl)) | (refine SlF.same ?_ ?_; (first | rfl | omega | (simp; done) | (simp; omega)); (first | exact fz_self _ _ (fun _ => rfl) | exact fz_pl rfl | (refine Fz.append ?_ ?_ <;> first | exact fz_self _ _ (fun _ => rfl) | exact fz_pl rfl) | (refine Fz.append (Fz.append ?_ ?_) ?_ <;> first | exact fz_self _ _ (fun _ => rfl) | exact fz_pl rfl))) | (simp only [Int.toNat_natCast, Nat.zero_add, Nat.mul_one]; rfl) | ((fail_if_success (show @Eq (Option _) _ _)); rfl) | ((show @Eq (Option _) _ _); simp only [List.getElem?_cons_zero, List.getElem?_cons_succ]; done) | ((show @Eq (Option _) _ _); simp only [List.getElem?_cons_zero, List.getElem?_cons_succ]; rfl) | with_reducible rfl)); conv => whnf))); exact Done.mk trivial))); conv => whnf)
                  refine Hand.mk [] ?_
                  try (conv => whnf)
                  refine CallW.d (i_stamp l[i]) ?_
                  try (conv => whnf)
                  refine Hand.mk [] ?_
                  try (conv => whnf)
                  refine CallW.d (i_StampLess _ _ l[i].time l[i].actor) ?_
                  try (conv => whnf)
                  try (conv => whnf)
                  repeat' (first
                    | (refine Pick.mk ?_ ?_ ?_; rotate_left; (focus ((refine wid ?_ ?_ <;> omega))); conv => whnf)
                    | (refine br_dec (fun _ => ?_) (fun _ => ?_) <;> first | (exfalso; omega) | contradiction | conv => whnf)
                    | (refine br_not ?_; conv => whnf)
                    | (refine br_bne (fun _ => ?_) (fun _ => ?_) <;> first | (exfalso; omega) | contradiction | conv => whnf)
                    | (refine br_beq (fun _ => ?_) (fun _ => ?_) <;> first | (exfalso; omega) | contradiction | conv => whnf))
                  · rename_i hst
                    refine Pick.mk (j + 1) ⟨⟨by omega, step ⟨by rw [e3, ← e1]; omega, fun _ p hp => by rw [e4] at hp; injection hp with hp; subst hp; exact hst⟩⟩, by omega⟩ (LeX.of ?_)
                    try (conv => whnf)
                    repeat (refine Need.mk ?_ ?_; (focus (first | omega | (simp; done))); conv => whnf)
                    trivial
                  · rename_i hst
                    refine Out.mk false [0, 1, 2, 3, 4] [] ?_
                    try (conv => whnf)
                    exact ⟨.inr ⟨fun h => hst ((h.cause _ (List.getElem_mem hlt) j (by omega)).2 (by rw [e3]; omega) _ e4), rfl, rfl⟩⟩
                · refine Pick.mk (j + 1) ⟨⟨by omega, step ⟨by rw [e3, ← e1]; omega, fun h => by rw [e3] at h; omega⟩⟩, by omega⟩ (LeX.of ?_)
                  try (conv => whnf)
                  repeat (refine Need.mk ?_ ?_; (focus (first | omega | (simp; done))); conv => whnf)
                  trivial
              · try (conv => whnf)
                repeat' (first
                  | (refine Pick.mk ?_ ?_ ?_; rotate_left; (focus ((refine wid ?_ ?_ <;> omega))); conv => whnf)
                  | (refine SeqJ.thru ?_; conv => whnf)
                  | (refine br_dec (fun _ => ?_) (fun _ => ?_) <;> first | (exfalso; omega) | contradiction | conv => whnf)
                  | (refine br_not ?_; conv => whnf)
                  | (refine br_bne (fun _ => ?_) (fun _ => ?_) <;> first | (exfalso; omega) | contradiction | conv => whnf)
                  | (refine br_beq (fun _ => ?_) (fun _ => ?_) <;> first | (exfalso; omega) | contradiction | conv => whnf))
                refine Pick.mk (i + 1) ⟨⟨by omega, all_next hlt hc fun a ha => hca a (by omega)⟩, by omega⟩ (LeX.of ?_)
                try (conv => whnf)
                repeat (refine Need.mk ?_ ?_; (focus (first | omega | (simp; done))); conv => whnf)
                trivial
          · refine Out.mk false [0, 1, 2, 3, 4] [] ?_
            try (conv => whnf)
            exact ⟨.inl ⟨⟨by omega, hgl, hsl, by rwa [List.take_of_length_le (by omega)] at hc⟩, rfl, rfl⟩⟩
end Go.Proofs.Ytpdjehnlejjfmaa.D
/- A log's bytes by the program. -/
namespace Go.Proofs.Ytpdjehnlejjfmaa.D
open Go.RowKit
set_option maxRecDepth 100000
set_option maxHeartbeats 4000000
set_option linter.unusedVariables false
set_option linter.unusedSimpArgs false

theorem i_append4L (l : List UInt8) (n : Nat) (v : Int) (hn : n = l.length) (hl : n ≤ 2 ^ 40) (h0 : 0 ≤ v) (h1 : v < 2 ^ 62) : CallMD Try.prog id_impl_append4 [.one (.os (.v 0) 1 0 n), vI .i64 v] [.own 1 (l.map byD)] [0] (.one (.os (.v 0) 1 0 (n + 4))) [.own 1 ((l ++ four v).map byD)] := by
  refine F_impl_append4 ?_
  try (conv => whnf)
  repeat (first
    | (refine Need.mk ?_ ?_; (focus (first | omega | rfl)); conv => whnf)
    | (refine Pick.mk ?_ ?_ ?_; rotate_left; (focus (first | (simp only [List.length_map, List.length_append, List.length_cons, List.length_nil, List.length_replicate, Nat.zero_add]; rfl) | (simp only [chunks]; rfl) | exact shr8 _ | exact shr16 _ | exact shr24 _ | exact wbyte _ | (refine SlOf.full ?_; first | (simp; done) | (simp; omega)) | ((fail_if_success (show @Eq (Option _) _ _)); rfl))); conv => whnf))
  refine Out.mk false [0, 1, 2, 3, 4] [] ?_
  try (conv => whnf)
  repeat (refine Need.mk ?_ ?_; (focus ((refine flat_app ?_ ?_ <;> (first | exact flat_by _ | exact flat_in _ | exact flat_st _ | exact flat_ts _ | exact flat_bo _ | exact flat_cl rfl)))); conv => whnf)
  exact ⟨rfl, by simp [four]⟩
theorem get_over (m : List (List UInt8)) (n i : Nat) (h : m.length = n) (hi : i < n) : ((over m (List.replicate n []) i).map tsD)[addN 0 (i : Int).toNat]? = some (tsD []) := by
  rw [addN_eq, List.getElem?_map, show 0 + (i : Int).toNat = i by omega, over_get (by simpa using h) (by simpa using hi), List.getElem_replicate]; rfl
theorem set_over (m : List (List UInt8)) (n i : Nat) (h : m.length = n) (hi : i < n) (c : DV) : ((over m (List.replicate n []) i).map tsD).set (addN 0 (i : Int).toNat) (splice [c] 0 [.sc (.string (bs m[i]))]) = (over m (List.replicate n []) (i + 1)).map tsD := by
  rw [addN_eq, show 0 + (i : Int).toNat = i by omega, ← over_set (by simpa using h) (by simpa using hi), List.map_set]; rfl
theorem i_logBytes (l : List OpV) (h : LogOk l) : CallD Try.prog id_impl_logBytes [vL l] [] (.one (.os (.v 0) 1 0 (logB l).length)) [.own 1 ((logB l).map byD)] := by
  refine F_impl_logBytes ?_
  have hle := h.len
  have hall := h.good.all
  try (conv => whnf)
  repeat (first
    | (refine Need.mk ?_ ?_; (focus (omega)); conv => whnf)
    | (refine Pick.mk ?_ ?_ ?_; rotate_left; (focus (first | exact List.length_map _ | exact natlit _ | exact rep_in _)); conv => whnf))
  refine LoopE.mk (fun x : Nat × List Int => mk [(0, vL l), (3, .one (.os (.v 5000) 1 0 (colsB l x.1).length)), (4, .one (.os (.v 12320) 1 0 l.length)), (5, vI .i64 x.1)] [(5000, .own 1 ((colsB l x.1).map byD)), (12320, .own 1 (x.2.map inD))])
    (fun x => x.1 ≤ 25 ∧ x.2.length = l.length) (fun x => 25 - x.1) (0, List.replicate l.length 0) ⟨by omega, by simp⟩ (LeX.of ?_) ?_
  · try (conv => whnf)
    repeat (refine Need.mk ?_ ?_; (focus (first | omega | (simp; done) | rfl)); conv => whnf)
    trivial
  · rintro ⟨c, col⟩ ⟨hc, hcol⟩
    simp only at hc hcol ⊢
    by_cases hc25 : c < 25
    · have hcb := colsB_len hall hle c (by omega)
      try (conv => whnf)
      repeat' (first
        | (refine Pick.mk ?_ ?_ ?_; rotate_left; (focus (exact List.length_map _)); conv => whnf)
        | (refine SeqJ.thru ?_; conv => whnf)
        | (refine br_dec (fun _ => ?_) (fun _ => ?_) <;> first | (exfalso; omega) | contradiction | conv => whnf)
        | (refine br_not ?_; conv => whnf)
        | (refine br_bne (fun _ => ?_) (fun _ => ?_) <;> first | (exfalso; omega) | contradiction | conv => whnf)
        | (refine br_beq (fun _ => ?_) (fun _ => ?_) <;> first | (exfalso; omega) | contradiction | conv => whnf))
      refine LoopE.mk (fun i : Nat => mk [(0, vL l), (3, .one (.os (.v 5000) 1 0 (colsB l c).length)), (4, .one (.os (.v 12320) 1 0 l.length)), (5, vI .i64 c), (19, vL l), (20, vI .i64 l.length), (21, vI .i64 i)] [(5000, .own 1 ((colsB l c).map byD)), (12320, .own 1 ((over (colL l c) col i).map inD))])
        (fun i => i ≤ l.length) (fun i => l.length - i) 0 (by omega) (LeX.of ?_) ?_
      · try (conv => whnf)
        repeat (refine Need.mk ?_ ?_; (focus (first | omega | (simp; done) | rfl)); conv => whnf)
        trivial
      · intro i hi
        by_cases hlt : i < l.length
        · have hok := hall _ (List.getElem_mem hlt)
          have hvl := hok.vec.1
          have hn := hok.num
          by_cases h9 : c < 9
          · have hcs : c = 0 ∨ c = 1 ∨ c = 2 ∨ c = 3 ∨ c = 4 ∨ c = 5 ∨ c = 6 ∨ c = 7 ∨ c = 8 := by omega
            rcases hcs with rfl | rfl | rfl | rfl | rfl | rfl | rfl | rfl | rfl
            all_goals
              try (conv => whnf)
              repeat' (first
                | (refine Pick.mk ?_ ?_ ?_; rotate_left; (focus ((refine pick_nat _ _ _ ?_; omega))); conv => whnf)
                | (refine SeqJ.thru ?_; conv => whnf)
                | (refine br_dec (fun _ => ?_) (fun _ => ?_) <;> first | (exfalso; omega) | contradiction | conv => whnf)
                | (refine br_not ?_; conv => whnf)
                | (refine br_bne (fun _ => ?_) (fun _ => ?_) <;> first | (exfalso; omega) | contradiction | conv => whnf)
                | (refine br_beq (fun _ => ?_) (fun _ => ?_) <;> first | (exfalso; omega) | contradiction | conv => whnf))
              refine Hand.mk [] ?_
              try (conv => whnf)
              refine CallW.d (i_numbers l[i] (by omega)) ?_
              try (conv => whnf)
              repeat (refine Need.mk ?_ ?_; (focus (omega)); conv => whnf)
              refine Pick.mk (inD (col[i]'(by omega))) (by rw [addN_eq, List.getElem?_map, show 0 + (i : Int).toNat = i by omega, over_get (by simp [hcol]) (by omega)]; rfl) ?_
              try (conv => whnf)
              repeat (first
                | (refine Need.mk ?_ ?_; (focus ((simp only [List.length_map, List.length_append, List.length_cons, List.length_nil, List.length_replicate]; omega))); conv => whnf)
                | (refine Pick.mk ?_ ?_ ?_; rotate_left; (focus (first | with_reducible exact set_inN _ _ _ _ | (refine wid ?_ ?_ <;> omega))); conv => whnf))
              refine Pick.mk (i + 1) (by constructor <;> first | omega | (simp only []; omega)) (LeX.of ?_)
              try (conv => whnf)
              repeat (refine Need.mk ?_ ?_; (focus (first | omega | (simp; done))); conv => whnf)
              refine Need.mk (by rw [← over_set (by simp [hcol]) (by omega)]; simp only [colL, List.getElem_map]; rfl) ?_
              try (conv => whnf)
              trivial
          · have hdep := colV_dep hvl (show 9 ≤ c by omega) hc25
            try (conv => whnf)
            repeat' (first
              | (refine Need.mk ?_ ?_; (focus (omega)); conv => whnf)
              | (refine Pick.mk ?_ ?_ ?_; rotate_left; (focus (first | (refine wid ?_ ?_ <;> omega) | (refine pick_nat _ _ _ ?_; omega) | (refine pick_int _ _ _ ?_ ?_ <;> omega))); conv => whnf)
              | (refine SeqJ.thru ?_; conv => whnf)
              | (refine br_dec (fun _ => ?_) (fun _ => ?_) <;> first | (exfalso; omega) | contradiction | conv => whnf)
              | (refine br_not ?_; conv => whnf)
              | (refine br_bne (fun _ => ?_) (fun _ => ?_) <;> first | (exfalso; omega) | contradiction | conv => whnf)
              | (refine br_beq (fun _ => ?_) (fun _ => ?_) <;> first | (exfalso; omega) | contradiction | conv => whnf))
            refine Pick.mk (inD (col[i]'(by omega))) (by rw [addN_eq, List.getElem?_map, show 0 + (i : Int).toNat = i by omega, over_get (by simp [hcol]) (by omega)]; rfl) ?_
            try (conv => whnf)
            repeat (first
              | (refine Need.mk ?_ ?_; (focus ((simp only [List.length_map, List.length_append, List.length_cons, List.length_nil, List.length_replicate]; omega))); conv => whnf)
              | (refine Pick.mk ?_ ?_ ?_; rotate_left; (focus (first | with_reducible exact set_inN _ _ _ _ | (refine wid ?_ ?_ <;> omega))); conv => whnf))
            refine Pick.mk (i + 1) (by constructor <;> first | omega | (simp only []; omega)) (LeX.of ?_)
            try (conv => whnf)
            repeat (refine Need.mk ?_ ?_; (focus (first | omega | (simp; done))); conv => whnf)
            refine Need.mk (by rw [← over_set (by simp [hcol]) (by omega)]; simp only [colL, List.getElem_map, hdep]) ?_
            try (conv => whnf)
            trivial
        · have e : over (colL l c) col i = colL l c := over_end (by simp [hcol]) (by omega)
          have hx : ∀ x ∈ over (colL l c) col i, inM x := by rw [e]; exact colL_in hall hc25
          have hxl : (over (colL l c) col i).length = l.length := by rw [e]; simp
          try (conv => whnf)
          repeat' (first
            | (refine SeqJ.thru ?_; conv => whnf)
            | (refine br_dec (fun _ => ?_) (fun _ => ?_) <;> first | (exfalso; omega) | contradiction | conv => whnf)
            | (refine br_not ?_; conv => whnf)
            | (refine br_bne (fun _ => ?_) (fun _ => ?_) <;> first | (exfalso; omega) | contradiction | conv => whnf)
            | (refine br_beq (fun _ => ?_) (fun _ => ?_) <;> first | (exfalso; omega) | contradiction | conv => whnf))
          refine Hand.mk [0] ?_
          try (conv => whnf)
          repeat (refine Pick.mk ?_ ?_ ?_; rotate_left; (focus ((refine SlF.self _ _ ?_ ?_; (first | rfl | omega | (simp; done) | (simp; omega)); (exact fun _ => rfl)))); conv => whnf)
          refine CallW.m (i_appendRuns (colsB l c) _ (over (colL l c) col i) rfl (by omega) hx (by omega)) ?_
          try (conv => whnf)
          repeat (refine Pick.mk ?_ ?_ ?_; rotate_left; (focus ((refine wid ?_ ?_ <;> omega))); conv => whnf)
          refine Pick.mk (c + 1, colL l c) ⟨⟨by omega, by simp⟩, by simp only; omega⟩ (LeX.of ?_)
          try (conv => whnf)
          repeat (refine Need.mk ?_ ?_; (focus ((simp; done))); conv => whnf)
          refine Need.mk ⟨rfl, by rw [e]; rfl⟩ ?_
          try (conv => whnf)
          repeat (refine Need.mk ?_ ?_; (focus (omega)); conv => whnf)
          refine Need.mk (by rw [e]; rfl) ?_
          try (conv => whnf)
          refine Need.mk (by rw [e]) ?_
          try (conv => whnf)
          trivial
    · obtain rfl : c = 25 := by omega
      have hcb := colsB_len hall hle 25 (by omega)
      have hw := words_total hall
      try (conv => whnf)
      repeat' (first
        | (refine Need.mk ?_ ?_; (focus (omega)); conv => whnf)
        | (refine Pick.mk ?_ ?_ ?_; rotate_left; (focus (first | exact List.length_map _ | exact natlit _ | exact rep_st _)); conv => whnf)
        | (refine SeqJ.thru ?_; conv => whnf)
        | (refine br_dec (fun _ => ?_) (fun _ => ?_) <;> first | (exfalso; omega) | contradiction | conv => whnf)
        | (refine br_not ?_; conv => whnf)
        | (refine br_bne (fun _ => ?_) (fun _ => ?_) <;> first | (exfalso; omega) | contradiction | conv => whnf)
        | (refine br_beq (fun _ => ?_) (fun _ => ?_) <;> first | (exfalso; omega) | contradiction | conv => whnf))
      refine LoopE.mk (fun i : Nat => mk [(0, vL l), (3, .one (.os (.v 5000) 1 0 (colsB l 25).length)), (8, .one (.os (.v 61472) 1 0 l.length)), (9, .one (.os (.v 65568) 1 0 l.length)), (55, vL l), (56, vI .i64 l.length), (57, vI .i64 i)]
          [(5000, .own 1 ((colsB l 25).map byD)), (61472, .own 1 ((over (keysOf l) (List.replicate l.length []) i).map tsD)), (65568, .own 1 ((over (textsOf l) (List.replicate l.length []) i).map tsD))])
        (fun i => i ≤ l.length) (fun i => l.length - i) 0 (by omega) (LeX.of ?_) ?_
      · try (conv => whnf)
        repeat (refine Need.mk ?_ ?_; (focus (first | omega | (simp; done) | (simp [over]; done))); conv => whnf)
        trivial
      · intro i hi
        by_cases hlt : i < l.length
        · have g1 := get_over (keysOf l) l.length i (by simp) hlt
          have q1 : ((over (keysOf l) (List.replicate l.length []) i).map tsD).set (addN 0 (i : Int).toNat) (splice (tsD []) 0 [.sc (.string (bs l[i].key))]) = (over (keysOf l) (List.replicate l.length []) (i + 1)).map tsD := by
            have := set_over (keysOf l) l.length i (by simp) hlt (.sc (.string (bs [])))
            rw [show (keysOf l)[i]'(by simpa using hlt) = l[i].key by simp [keysOf]] at this; exact this
          have q2 : ((over (textsOf l) (List.replicate l.length []) i).map tsD).set (addN 0 (i : Int).toNat) (splice (tsD []) 0 [.sc (.string (bs l[i].text))]) = (over (textsOf l) (List.replicate l.length []) (i + 1)).map tsD := by
            have := set_over (textsOf l) l.length i (by simp) hlt (.sc (.string (bs [])))
            rw [show (textsOf l)[i]'(by simpa using hlt) = l[i].text by simp [textsOf]] at this; exact this
          have g2 := get_over (textsOf l) l.length i (by simp) hlt
          conv => whnf
          repeat (refine SeqJ.thru ?_; conv => whnf)
          refine br_dec (fun _ => ?_) (fun _ => ?_)
          · conv => whnf
            repeat (refine SeqJ.thru ?_; conv => whnf)
            refine Pick.mk _ (pick_nat l oD i hlt) ?_
            conv => whnf
            refine Need.mk ⟨by omega, by omega⟩ ?_
            conv => whnf
            refine Pick.mk _ g1 ?_
            conv => whnf
            refine Need.mk (by simp) ?_
            conv => whnf
            refine Pick.mk _ q1 ?_
            conv => whnf
            repeat (refine SeqJ.thru ?_; conv => whnf)
            refine Need.mk ⟨by omega, by omega⟩ ?_
            conv => whnf
            refine Pick.mk _ g2 ?_
            conv => whnf
            refine Need.mk (by simp) ?_
            conv => whnf
            refine Pick.mk _ q2 ?_
            conv => whnf
            repeat (refine SeqJ.thru ?_; conv => whnf)
            refine Pick.mk ((i : Int) + 1) (wid (by omega) (by omega)) ?_
            conv => whnf
            refine Pick.mk (i + 1) (by constructor <;> first | omega | (simp only []; omega)) (LeX.of ?_)
            try (conv => whnf)
            repeat (refine Need.mk ?_ ?_; (focus (first | omega | (simp; done))); conv => whnf)
            trivial
          · exfalso; omega
        · have e1 : over (keysOf l) (List.replicate l.length []) i = keysOf l := over_end (by simp) (by simp; omega)
          have e2 : over (textsOf l) (List.replicate l.length []) i = textsOf l := over_end (by simp) (by simp; omega)
          have hk1 : (over (keysOf l) (List.replicate l.length []) i).length = l.length := by rw [e1]; simp
          have hk2 : (over (textsOf l) (List.replicate l.length []) i).length = l.length := by rw [e2]; simp
          have ht1 : total (over (keysOf l) (List.replicate l.length []) i) ≤ 2 ^ 40 := by rw [e1]; omega
          have ht2 : total (over (textsOf l) (List.replicate l.length []) i) ≤ 2 ^ 40 := by rw [e2]; omega
          conv => whnf
          repeat (refine SeqJ.thru ?_; conv => whnf)
          refine br_dec (fun _ => ?_) (fun _ => ?_)
          · exfalso; omega
          · conv => whnf
            refine Hand.mk [0] ?_
            try (conv => whnf)
            repeat (refine Pick.mk ?_ ?_ ?_; rotate_left; (focus ((refine SlF.self _ _ ?_ ?_; (first | rfl | omega | (simp; done) | (simp; omega)); (exact fun _ => rfl)))); conv => whnf)
            refine CallW.m (i_appendTexts (colsB l 25) _ (over (keysOf l) (List.replicate l.length []) i) rfl (by omega) (by omega) ht1) ?_
            try (conv => whnf)
            have hp1 := putT_len200 (ts := keysOf l) (by simpa using hle) (by simpa using hw.1)
            have hp2 := putT_len200 (ts := textsOf l) (by simpa using hle) (by simpa using hw.2)
            have hb1 : (colsB l 25 ++ putT (over (keysOf l) (List.replicate l.length []) i)).length ≤ 2 ^ 40 := by rw [e1, List.length_append]; omega
            obtain ⟨out, hout⟩ : ∃ out, out = colsB l 25 ++ putT (over (keysOf l) (List.replicate l.length []) i) ++ putT (over (textsOf l) (List.replicate l.length []) i) := ⟨_, rfl⟩
            have hb2 : out.length ≤ 2 ^ 40 := by rw [hout, e1, e2, List.length_append, List.length_append]; omega
            have hs := sumH_lt (h := 2166136261) (by omega) out
            refine Hand.mk [0] ?_
            try (conv => whnf)
            repeat (refine Pick.mk ?_ ?_ ?_; rotate_left; (focus ((refine SlF.self _ _ ?_ ?_; (first | rfl | omega | (simp; done) | (simp; omega)); (exact fun _ => rfl)))); conv => whnf)
            refine CallW.m (i_appendTexts (colsB l 25 ++ putT (over (keysOf l) (List.replicate l.length []) i)) _ (over (textsOf l) (List.replicate l.length []) i) rfl hb1 (by omega) ht2) ?_
            try (conv => whnf)
            rw [← hout]
            refine Hand.mk [] ?_
            try (conv => whnf)
            repeat (refine Pick.mk ?_ ?_ ?_; rotate_left; (focus ((refine SlF.self _ _ ?_ ?_; (first | rfl | omega | (simp; done) | (simp; omega)); (exact fun _ => rfl)))); conv => whnf)
            refine CallW.d (i_sumOn 2166136261 out (by omega) hb2) ?_
            try (conv => whnf)
            repeat (refine Pick.mk ?_ ?_ ?_; rotate_left; (focus ((refine wid ?_ ?_ <;> omega))); conv => whnf)
            refine Hand.mk [0] ?_
            try (conv => whnf)
            refine CallW.m (i_append4L out _ _ rfl hb2 (by omega) (by omega)) ?_
            try (conv => whnf)
            refine Out.mk false [0, 1, 2, 3, 4] [] ?_
            try (conv => whnf)
            repeat (refine Need.mk ?_ ?_; (focus ((first | exact flat_by _ | exact flat_in _ | exact flat_st _ | exact flat_ts _ | exact flat_bo _ | exact flat_cl rfl))); conv => whnf)
            have e3 : out = logB0 l := by rw [hout, e1, e2, logB0]
            rw [e3]
            exact ⟨by simp [logB, four], by rw [logB]⟩
end Go.Proofs.Ytpdjehnlejjfmaa.D
/- LogBytes by the program. -/
namespace Go.Proofs.Ytpdjehnlejjfmaa.D
open Go.RowKit
set_option maxRecDepth 100000
set_option maxHeartbeats 4000000
set_option linter.unusedVariables false
set_option linter.unusedSimpArgs false

theorem i_LogOK (l : List OpV) (hw : ∀ o ∈ l, o.key.length ≤ 2 ^ 40 ∧ o.text.length ≤ 2 ^ 40) : CallD Try.prog id_impl_LogOK [vL l] [] (vB (decide (LogOk l))) [] := by
  refine F_impl_LogOK ?_
  try (conv => whnf)
  refine Hand.mk [] ?_
  try (conv => whnf)
  refine CallW.n (i_readBook l hw) ?_
  rintro _ _ (⟨h, rfl, rfl⟩ | ⟨h, rfl, rfl⟩)
  · try (conv => whnf)
    refine Out.mk true [] [] ?_
    try (conv => whnf)
    exact ⟨dec_t h, rfl⟩
  · try (conv => whnf)
    refine Out.mk true [] [] ?_
    try (conv => whnf)
    exact ⟨dec_f h, rfl⟩
/-- What both give back for a log: its bytes, and 0; or none, and 1. -/
noncomputable def logX (l : List OpV) : List UInt8 := if LogOk l then logB l else []
noncomputable def logC (l : List OpV) : Int := if LogOk l then 0 else 1
noncomputable abbrev logR (l : List OpV) : SV := .tup [(false, [.os (.v 0) 1 0 (logX l).length]), (false, [cI (logC l)])]
theorem i_LogBytes (l : List OpV) (hw : ∀ o ∈ l, o.key.length ≤ 2 ^ 40 ∧ o.text.length ≤ 2 ^ 40) : CallD Try.prog id_impl_LogBytes [vL l] [] (logR l) [.own 1 ((logX l).map byD)] := by
  refine F_impl_LogBytes ?_
  try (conv => whnf)
  repeat (refine SeqJ.thru ?_; conv => whnf)
  refine Hand.mk [] ?_
  try (conv => whnf)
  refine CallW.d (i_LogOK l hw) ?_
  try (conv => whnf)
  by_cases h : LogOk l
  · have hb := logB_len h
    have hc := i_logBytes l h
    obtain ⟨B, hB⟩ : ∃ B, B = logB l := ⟨_, rfl⟩
    rw [← hB] at hc hb
    try (conv => whnf)
    repeat' (first
      | (refine br_dec (fun _ => ?_) (fun _ => ?_) <;> first | (exfalso; omega) | contradiction | conv => whnf)
      | (refine br_not ?_; conv => whnf)
      | (refine br_bne (fun _ => ?_) (fun _ => ?_) <;> first | (exfalso; omega) | contradiction | conv => whnf)
      | (refine br_beq (fun _ => ?_) (fun _ => ?_) <;> first | (exfalso; omega) | contradiction | conv => whnf))
    refine Hand.mk [] ?_
    try (conv => whnf)
    refine CallW.d (hc) ?_
    try (conv => whnf)
    repeat (refine SeqJ.thru ?_; conv => whnf)
    try (conv => whnf)
    repeat' (first
      | (refine br_dec (fun _ => ?_) (fun _ => ?_) <;> first | (exfalso; omega) | contradiction | conv => whnf)
      | (refine br_not ?_; conv => whnf)
      | (refine br_bne (fun _ => ?_) (fun _ => ?_) <;> first | (exfalso; omega) | contradiction | conv => whnf)
      | (refine br_beq (fun _ => ?_) (fun _ => ?_) <;> first | (exfalso; omega) | contradiction | conv => whnf))
    refine Out.mk false [0, 1, 2, 3, 4] [] ?_
    try (conv => whnf)
    repeat (refine Need.mk ?_ ?_; (focus ((first | exact flat_by _ | exact flat_in _ | exact flat_st _ | exact flat_ts _ | exact flat_bo _ | exact flat_cl rfl))); conv => whnf)
    exact ⟨by simp [logR, logX, logC, h, hB], by simp [logX, h, hB]⟩
  · try (conv => whnf)
    repeat' (first
      | (refine br_dec (fun _ => ?_) (fun _ => ?_) <;> first | (exfalso; omega) | contradiction | conv => whnf)
      | (refine br_not ?_; conv => whnf)
      | (refine br_bne (fun _ => ?_) (fun _ => ?_) <;> first | (exfalso; omega) | contradiction | conv => whnf)
      | (refine br_beq (fun _ => ?_) (fun _ => ?_) <;> first | (exfalso; omega) | contradiction | conv => whnf))
    refine Out.mk false [0, 1, 2, 3, 4] [(0, 1)] ?_
    try (conv => whnf)
    repeat (refine Need.mk ?_ ?_; (focus ((first | exact flat_by _ | exact flat_in _ | exact flat_st _ | exact flat_ts _ | exact flat_bo _ | exact flat_cl rfl))); conv => whnf)
    exact ⟨by simp [logR, logX, logC, h], by simp [logX, h]⟩
end Go.Proofs.Ytpdjehnlejjfmaa.D
/- LogBytes by the reference. -/
namespace Go.Proofs.Ytpdjehnlejjfmaa.D
open Go.RowKit
set_option maxRecDepth 100000
set_option maxHeartbeats 4000000
set_option linter.unusedVariables false
set_option linter.unusedSimpArgs false

theorem map_app_by (a b : List UInt8) : a.map byD ++ b.map byD = (a ++ b).map byD := map_app _ _ _
theorem s_l08Bytes (l : List OpV) (h : LogOk l) : CallD Try.prog id_spec_l08Bytes [vL l] [] (.one (.os (.v 0) 1 0 (logB l).length)) [.own 1 ((logB l).map byD)] := by
  refine F_spec_l08Bytes ?_
  have hle := h.len
  have hall := h.good.all
  try (conv => whnf)
  repeat (refine Pick.mk ?_ ?_ ?_; rotate_left; (focus ((simp only [chunks]; rfl))); conv => whnf)
  refine LoopE.mk (fun x : Nat × List UInt8 => mk [(0, vL l), (3, .one (.os (.v 8192) 1 0 x.2.length)), (4, vI .i64 x.1)] [(8192, .own 1 (x.2.map byD))]) (fun x => x.1 ≤ 25 ∧ x.2 = colsB l x.1) (fun x => 25 - x.1) (0, []) ⟨by omega, rfl⟩ (LeX.of ?_) ?_
  · try (conv => whnf)
    repeat (refine Need.mk ?_ ?_; (focus (first | omega | (simp; done))); conv => whnf)
    trivial
  · rintro ⟨c, C⟩ ⟨hc, hC⟩
    simp only at hc hC ⊢
    by_cases hc25 : c < 25
    · have hcb : C.length ≤ c * 15369 := by rw [hC]; exact colsB_len hall hle c (by omega)
      have hin := colL_in hall hc25
      have h15 := putRs_len15 _ (colL l c) (Nat.le_refl _) (colL_le hall hc25) (by simpa using hle)
      have hpl := put_len (n := (colL l c).length) (by simp; omega)
      have hp : (putR (colL l c)).length ≤ 20000 := by simp only [putR, List.length_append]; simp at h15 hpl ⊢; omega
      have hcl := colL_length l c
      try (conv => whnf)
      repeat' (first
        | (refine SeqJ.thru ?_; conv => whnf)
        | (refine br_dec (fun _ => ?_) (fun _ => ?_) <;> first | (exfalso; omega) | contradiction | conv => whnf)
        | (refine br_not ?_; conv => whnf)
        | (refine br_bne (fun _ => ?_) (fun _ => ?_) <;> first | (exfalso; omega) | contradiction | conv => whnf)
        | (refine br_beq (fun _ => ?_) (fun _ => ?_) <;> first | (exfalso; omega) | contradiction | conv => whnf))
      refine Hand.mk [] ?_
      try (conv => whnf)
      refine CallW.d (s_l08Column l c hc25 (by omega) hall) ?_
      try (conv => whnf)
      refine Hand.mk [] ?_
      try (conv => whnf)
      repeat (refine Pick.mk ?_ ?_ ?_; rotate_left; (focus ((refine SlF.self _ _ ?_ ?_; (first | rfl | omega | (simp; done) | (simp; omega)); (exact fun _ => rfl)))); conv => whnf)
      refine CallW.d (s_l01PutRuns (colL l c) hin (by simp; omega)) ?_
      try (conv => whnf)
      repeat (first
        | (refine Need.mk ?_ ?_; (focus (first | omega | (first | exact fz_self _ _ (fun _ => rfl) | exact fz_pl rfl | (refine Fz.append ?_ ?_ <;> first | exact fz_self _ _ (fun _ => rfl) | exact fz_pl rfl) | (refine Fz.append (Fz.append ?_ ?_) ?_ <;> first | exact fz_self _ _ (fun _ => rfl) | exact fz_pl rfl)))); conv => whnf)
        | (refine Pick.mk ?_ ?_ ?_; rotate_left; (focus (first | (simp only [List.length_map, List.length_append, List.length_cons, List.length_nil, List.length_replicate, Nat.zero_add]; rfl) | with_reducible exact map_app _ _ _ | (refine wid ?_ ?_ <;> omega) | (refine SlOf.full ?_; first | (simp; done) | (simp; omega)))); conv => whnf))
      refine Pick.mk (c + 1, C ++ putR (colL l c)) ⟨⟨by omega, by rw [hC]; rfl⟩, by simp only; omega⟩ (LeX.of ?_)
      try (conv => whnf)
      repeat (refine Need.mk ?_ ?_; (focus (first | omega | (simp; done))); conv => whnf)
      trivial
    · obtain rfl : c = 25 := by omega
      have hcb : C.length ≤ 25 * 15369 := by rw [hC]; exact colsB_len hall hle 25 (by omega)
      have hw := words_total hall
      have hp1 := putT_len200 (ts := keysOf l) (by simpa using hle) (by simpa using hw.1)
      have hp2 := putT_len200 (ts := textsOf l) (by simpa using hle) (by simpa using hw.2)
      try (conv => whnf)
      repeat' (first
        | (refine Pick.mk ?_ ?_ ?_; rotate_left; (focus ((simp only [chunks]; rfl))); conv => whnf)
        | (refine SeqJ.thru ?_; conv => whnf)
        | (refine br_dec (fun _ => ?_) (fun _ => ?_) <;> first | (exfalso; omega) | contradiction | conv => whnf)
        | (refine br_not ?_; conv => whnf)
        | (refine br_bne (fun _ => ?_) (fun _ => ?_) <;> first | (exfalso; omega) | contradiction | conv => whnf)
        | (refine br_beq (fun _ => ?_) (fun _ => ?_) <;> first | (exfalso; omega) | contradiction | conv => whnf))
      refine LoopE.mk (fun i : Nat => mk [(0, vL l), (3, .one (.os (.v 8192) 1 0 C.length)), (5, .one (.os (.v 28672) 1 0 i)), (6, .one (.os (.v 32768) 1 0 i)), (7, vI .i64 i)] [(8192, .own 1 (C.map byD)), (28672, .own 1 ((keysOf (l.take i)).map tsD)), (32768, .own 1 ((textsOf (l.take i)).map tsD))])
        (fun i => i ≤ l.length) (fun i => l.length - i) 0 (by omega) (LeX.of ?_) ?_
      · try (conv => whnf)
        repeat (refine Need.mk ?_ ?_; (focus (first | omega | (simp; done) | rfl)); conv => whnf)
        trivial
      · intro i hi
        by_cases hlt : i < l.length
        · have k1 := keysOf_take hlt
          have k2 := textsOf_take hlt
          have n1 : (keysOf (l.take i)).length = i := by simp; omega
          have n2 : (textsOf (l.take i)).length = i := by simp; omega
          try (conv => whnf)
          repeat' (first
            | (refine Need.mk ?_ ?_; (focus (first | omega | rfl)); conv => whnf)
            | (refine Pick.mk ?_ ?_ ?_; rotate_left; (focus (first | exact List.length_map _ | (simp only [List.length_map, List.length_append, List.length_cons, List.length_nil, List.length_replicate, Nat.zero_add]; rfl) | exact map_snoc tsD _ _ | (simp only [chunks]; rfl) | (refine wid ?_ ?_ <;> omega) | (refine pick_nat _ _ _ ?_; omega) | (refine SlOf.full ?_; first | (simp; done) | (simp; omega)))); conv => whnf)
            | (refine SeqJ.thru ?_; conv => whnf)
            | (refine br_dec (fun _ => ?_) (fun _ => ?_) <;> first | (exfalso; omega) | contradiction | conv => whnf)
            | (refine br_not ?_; conv => whnf)
            | (refine br_bne (fun _ => ?_) (fun _ => ?_) <;> first | (exfalso; omega) | contradiction | conv => whnf)
            | (refine br_beq (fun _ => ?_) (fun _ => ?_) <;> first | (exfalso; omega) | contradiction | conv => whnf))
          refine Pick.mk (i + 1) (by constructor <;> first | omega | (simp only []; omega)) (LeX.of ?_)
          try (conv => whnf)
          repeat (refine Need.mk ?_ ?_; (focus (first | omega | (simp; done))); conv => whnf)
          refine Need.mk (by rw [k1]) ?_
          try (conv => whnf)
          refine Need.mk (by rw [k2]) ?_
          try (conv => whnf)
          trivial
        · have e : l.take i = l := List.take_of_length_le (by omega)
          have hi2 : i = l.length := by omega
          have n1 : (keysOf (l.take i)).length = i := by rw [e]; simp; omega
          have n2 : (textsOf (l.take i)).length = i := by rw [e]; simp; omega
          have t1 : total (keysOf (l.take i)) ≤ 2 ^ 40 := by rw [e]; omega
          have t2 : total (textsOf (l.take i)) ≤ 2 ^ 40 := by rw [e]; omega
          try (conv => whnf)
          repeat' (first
            | (refine Pick.mk ?_ ?_ ?_; rotate_left; (focus (exact List.length_map _)); conv => whnf)
            | (refine SeqJ.thru ?_; conv => whnf)
            | (refine br_dec (fun _ => ?_) (fun _ => ?_) <;> first | (exfalso; omega) | contradiction | conv => whnf)
            | (refine br_not ?_; conv => whnf)
            | (refine br_bne (fun _ => ?_) (fun _ => ?_) <;> first | (exfalso; omega) | contradiction | conv => whnf)
            | (refine br_beq (fun _ => ?_) (fun _ => ?_) <;> first | (exfalso; omega) | contradiction | conv => whnf))
          refine Hand.mk [] ?_
          try (conv => whnf)
          repeat (refine Pick.mk ?_ ?_ ?_; rotate_left; (focus ((refine SlF.self _ _ ?_ ?_; (first | rfl | omega | (simp; done) | (simp; omega)); (exact fun _ => rfl)))); conv => whnf)
          refine CallW.r (s_l01PutTexts (keysOf (l.take i)) (by omega) t1) ?_
          rintro _ _ ⟨K, rfl, rfl, hK⟩
          have hK1 : K = putT (keysOf l) := by
            rw [e] at hK
            rcases hK with hK | hK
            · exact hK
            · omega
          have hKl : K.length ≤ 223300 := by rw [hK1]; exact hp1
          clear hK
          try (conv => whnf)
          repeat (first
            | (refine Need.mk ?_ ?_; (focus (first | omega | (first | exact fz_self _ _ (fun _ => rfl) | exact fz_pl rfl | (refine Fz.append ?_ ?_ <;> first | exact fz_self _ _ (fun _ => rfl) | exact fz_pl rfl) | (refine Fz.append (Fz.append ?_ ?_) ?_ <;> first | exact fz_self _ _ (fun _ => rfl) | exact fz_pl rfl)))); conv => whnf)
            | (refine Pick.mk ?_ ?_ ?_; rotate_left; (focus (first | (simp only [List.length_map, List.length_append, List.length_cons, List.length_nil, List.length_replicate, Nat.zero_add]; rfl) | with_reducible exact map_app _ _ _ | (refine SlOf.full ?_; first | (simp; done) | (simp; omega)))); conv => whnf))
          refine Hand.mk [] ?_
          try (conv => whnf)
          repeat (refine Pick.mk ?_ ?_ ?_; rotate_left; (focus ((refine SlF.self _ _ ?_ ?_; (first | rfl | omega | (simp; done) | (simp; omega)); (exact fun _ => rfl)))); conv => whnf)
          refine CallW.r (s_l01PutTexts (textsOf (l.take i)) (by omega) t2) ?_
          rintro _ _ ⟨X, rfl, rfl, hX⟩
          have hX1 : X = putT (textsOf l) := by
            rw [e] at hX
            rcases hX with hX | hX
            · exact hX
            · omega
          have hXl : X.length ≤ 223300 := by rw [hX1]; exact hp2
          clear hX
          have hl3 : (C ++ K ++ X).length ≤ 1048576 := by simp only [List.length_append]; omega
          have hs := sumH_lt (h := 2166136261) (by omega) (C ++ K ++ X)
          try (conv => whnf)
          repeat (first
            | (refine Need.mk ?_ ?_; (focus (first | omega | (first | exact fz_self _ _ (fun _ => rfl) | exact fz_pl rfl | (refine Fz.append ?_ ?_ <;> first | exact fz_self _ _ (fun _ => rfl) | exact fz_pl rfl) | (refine Fz.append (Fz.append ?_ ?_) ?_ <;> first | exact fz_self _ _ (fun _ => rfl) | exact fz_pl rfl)))); conv => whnf)
            | (refine Pick.mk ?_ ?_ ?_; rotate_left; (focus (first | (simp only [List.length_map, List.length_append, List.length_cons, List.length_nil, List.length_replicate, Nat.zero_add]; rfl) | with_reducible exact map_app _ _ _ | (refine SlOf.full ?_; first | (simp; done) | (simp; omega)))); conv => whnf))
          refine Hand.mk [] ?_
          try (conv => whnf)
          repeat (refine Pick.mk ?_ ?_ ?_; rotate_left; (focus ((refine SlF.self _ _ ?_ ?_; (first | rfl | omega | (simp; done) | (simp; omega)); (exact fun _ => rfl)))); conv => whnf)
          refine CallW.d (s_Sum32 (C ++ K ++ X) hl3) ?_
          try (conv => whnf)
          refine Hand.mk [] ?_
          try (conv => whnf)
          refine CallW.d (s_l01Four (sumH 2166136261 (C ++ K ++ X)) (by omega) (by omega)) ?_
          try (conv => whnf)
          repeat (first
            | (refine Need.mk ?_ ?_; (focus (first | (simp; omega) | rfl)); conv => whnf)
            | (refine Pick.mk ?_ ?_ ?_; rotate_left; (focus (first | (simp only [List.length_map, List.length_append, List.length_cons, List.length_nil, List.length_replicate, Nat.zero_add]; rfl) | with_reducible exact map_app _ _ _ | (refine SlOf.full ?_; first | (simp; done) | (simp; omega)))); conv => whnf))
          refine Out.mk false [0, 1, 2, 3, 4] [] ?_
          try (conv => whnf)
          repeat (refine Need.mk ?_ ?_; (focus ((first | exact flat_by _ | exact flat_in _ | exact flat_st _ | exact flat_ts _ | exact flat_bo _ | exact flat_cl rfl))); conv => whnf)
          have e3 : C ++ K ++ X = logB0 l := by rw [hC, hK1, hX1, logB0]
          rw [e3]
          exact ⟨by simp [logB, four, ← e3]; omega, by rw [logB]⟩
theorem s_LogBytes (l : List OpV) (hw : ∀ o ∈ l, o.key.length ≤ 2 ^ 40 ∧ o.text.length ≤ 2 ^ 40) : CallD Try.prog id_spec_LogBytes [vL l] [] (logR l) [.own 1 ((logX l).map byD)] := by
  refine F_spec_LogBytes ?_
  try (conv => whnf)
  repeat (refine SeqJ.thru ?_; conv => whnf)
  refine Hand.mk [] ?_
  try (conv => whnf)
  refine CallW.d (s_LogOK l hw) ?_
  try (conv => whnf)
  by_cases h : LogOk l
  · have hb := logB_len h
    have hc := s_l08Bytes l h
    obtain ⟨B, hB⟩ : ∃ B, B = logB l := ⟨_, rfl⟩
    rw [← hB] at hc hb
    try (conv => whnf)
    repeat' (first
      | (refine br_dec (fun _ => ?_) (fun _ => ?_) <;> first | (exfalso; omega) | contradiction | conv => whnf)
      | (refine br_not ?_; conv => whnf)
      | (refine br_bne (fun _ => ?_) (fun _ => ?_) <;> first | (exfalso; omega) | contradiction | conv => whnf)
      | (refine br_beq (fun _ => ?_) (fun _ => ?_) <;> first | (exfalso; omega) | contradiction | conv => whnf))
    refine Hand.mk [] ?_
    try (conv => whnf)
    refine CallW.d (hc) ?_
    try (conv => whnf)
    repeat (refine SeqJ.thru ?_; conv => whnf)
    try (conv => whnf)
    repeat' (first
      | (refine br_dec (fun _ => ?_) (fun _ => ?_) <;> first | (exfalso; omega) | contradiction | conv => whnf)
      | (refine br_not ?_; conv => whnf)
      | (refine br_bne (fun _ => ?_) (fun _ => ?_) <;> first | (exfalso; omega) | contradiction | conv => whnf)
      | (refine br_beq (fun _ => ?_) (fun _ => ?_) <;> first | (exfalso; omega) | contradiction | conv => whnf))
    refine Out.mk false [0, 1, 2, 3, 4] [] ?_
    try (conv => whnf)
    repeat (refine Need.mk ?_ ?_; (focus ((first | exact flat_by _ | exact flat_in _ | exact flat_st _ | exact flat_ts _ | exact flat_bo _ | exact flat_cl rfl))); conv => whnf)
    exact ⟨by simp [logR, logX, logC, h, hB], by simp [logX, h, hB]⟩
  · try (conv => whnf)
    repeat' (first
      | (refine Pick.mk ?_ ?_ ?_; rotate_left; (focus ((simp only [chunks]; rfl))); conv => whnf)
      | (refine br_dec (fun _ => ?_) (fun _ => ?_) <;> first | (exfalso; omega) | contradiction | conv => whnf)
      | (refine br_not ?_; conv => whnf)
      | (refine br_bne (fun _ => ?_) (fun _ => ?_) <;> first | (exfalso; omega) | contradiction | conv => whnf)
      | (refine br_beq (fun _ => ?_) (fun _ => ?_) <;> first | (exfalso; omega) | contradiction | conv => whnf))
    refine Out.mk false [0, 1, 2, 3, 4] [] ?_
    try (conv => whnf)
    repeat (refine Need.mk ?_ ?_; (focus ((first | exact flat_by _ | exact flat_in _ | exact flat_st _ | exact flat_ts _ | exact flat_bo _ | exact flat_cl rfl))); conv => whnf)
    exact ⟨by simp [logR, logX, logC, h], by simp [logX, h]⟩
end Go.Proofs.Ytpdjehnlejjfmaa.D
/- The marks that a law makes in a log. -/
namespace Go.Proofs.Ytpdjehnlejjfmaa.D
open Go.RowKit
set_option maxRecDepth 100000
set_option maxHeartbeats 4000000
set_option linter.unusedVariables false
set_option linter.unusedSimpArgs false

theorem digs {n m : Nat} (h : n * 10 ^ m ≤ 2 ^ 60) (hn : 0 < n) : m ≤ 18 := by
  rcases Nat.lt_or_ge m 19 with g | g
  · omega
  · exfalso
    have h1 : 10 ^ 19 ≤ 10 ^ m := Nat.pow_le_pow_right (by omega) g
    have h2 : 1 * 10 ^ m ≤ n * 10 ^ m := Nat.mul_le_mul_right _ hn
    have h3 : (2 : Nat) ^ 60 < 10 ^ 19 := by decide
    omega
theorem digs_next {n m : Nat} (h : n * 10 ^ m ≤ 2 ^ 60) : n / 10 * 10 ^ (m + 1) ≤ 2 ^ 60 := by
  refine Nat.le_trans ?_ h
  rw [Nat.pow_succ, Nat.mul_comm (10 ^ m) 10, ← Nat.mul_assoc]
  exact Nat.mul_le_mul_right _ (Nat.div_mul_le_self n 10)
theorem l_markText (k : Int) (h0 : 0 ≤ k) (h1 : k ≤ 2 ^ 60) : CallM Try.prog id_laws_markText [vI .i64 k] [] [] true fun r Lo => ∃ t : List UInt8, t.length ≤ 1000 ∧ r = vS (bs t) ∧ Lo = [] := by
  refine F_laws_markText ?_
  try (conv => whnf)
  repeat' (first
    | (refine SeqJ.thru ?_; conv => whnf)
    | (refine br_dec (fun _ => ?_) (fun _ => ?_) <;> first | (exfalso; omega) | contradiction | conv => whnf)
    | (refine br_not ?_; conv => whnf)
    | (refine br_bne (fun _ => ?_) (fun _ => ?_) <;> first | (exfalso; omega) | contradiction | conv => whnf)
    | (refine br_beq (fun _ => ?_) (fun _ => ?_) <;> first | (exfalso; omega) | contradiction | conv => whnf))
  · refine Out.mk true [] [] ?_
    try (conv => whnf)
    exact ⟨[109, 48], by simp, rfl, rfl⟩
  · refine LoopE.mk (fun x : Nat × List UInt8 => mk [(0, vI .i64 x.1), (3, vS (bs x.2))] []) (fun x => x.1 ≤ 2 ^ 60 ∧ x.1 * 10 ^ x.2.length ≤ 2 ^ 60 ∧ x.2.length ≤ 19) (fun x => x.1) (k.toNat, []) ⟨by simp only; omega, by simp only [List.length_nil]; omega, by simp⟩ (LeX.of ?_) ?_
    · try (conv => whnf)
      repeat (refine Need.mk ?_ ?_; (focus (first | omega | (simp; done))); conv => whnf)
      trivial
    · rintro ⟨n, t⟩ ⟨h2, h3, h4⟩
      simp only at h2 h3 h4 ⊢
      by_cases hn : 0 < n
      · have hd := digs h3 hn
        have hx := digs_next h3
        try (conv => whnf)
        repeat' (first
          | (refine Need.mk ?_ ?_; (focus (omega)); conv => whnf)
          | (refine Pick.mk ?_ ?_ ?_; rotate_left; (focus (first | (simp only [chunks]; rfl) | (refine wid ?_ ?_ <;> omega) | (refine tmodn ?_; omega) | exact wbyte _)); conv => whnf)
          | (refine SeqJ.thru ?_; conv => whnf)
          | (refine br_dec (fun _ => ?_) (fun _ => ?_) <;> first | (exfalso; omega) | contradiction | conv => whnf)
          | (refine br_not ?_; conv => whnf)
          | (refine br_bne (fun _ => ?_) (fun _ => ?_) <;> first | (exfalso; omega) | contradiction | conv => whnf)
          | (refine br_beq (fun _ => ?_) (fun _ => ?_) <;> first | (exfalso; omega) | contradiction | conv => whnf))
        refine Pick.mk [u8 (48 + (n : Int) % 10)] ⟨by simp, rfl⟩ ?_
        try (conv => whnf)
        repeat (first
          | (refine Need.mk ?_ ?_; (focus (first | omega | (simp; omega))); conv => whnf)
          | (refine Pick.mk ?_ ?_ ?_; rotate_left; (focus (first | with_reducible exact bs_app _ _ | (refine wdiv ?_ ?_ ?_ <;> omega))); conv => whnf))
        refine Pick.mk (n / 10, u8 (48 + (n : Int) % 10) :: t) ⟨⟨by simp only; omega, by simpa using hx, by simp; omega⟩, by simp only; omega⟩ (LeX.of ?_)
        try (conv => whnf)
        repeat (refine Need.mk ?_ ?_; (focus (first | omega | (simp; done))); conv => whnf)
        trivial
      · try (conv => whnf)
        repeat' (first
          | (refine Need.mk ?_ ?_; (focus ((simp; omega))); conv => whnf)
          | (refine Pick.mk ?_ ?_ ?_; rotate_left; (focus (with_reducible exact bs_app _ _)); conv => whnf)
          | (refine SeqJ.thru ?_; conv => whnf)
          | (refine br_dec (fun _ => ?_) (fun _ => ?_) <;> first | (exfalso; omega) | contradiction | conv => whnf)
          | (refine br_not ?_; conv => whnf)
          | (refine br_bne (fun _ => ?_) (fun _ => ?_) <;> first | (exfalso; omega) | contradiction | conv => whnf)
          | (refine br_beq (fun _ => ?_) (fun _ => ?_) <;> first | (exfalso; omega) | contradiction | conv => whnf))
        refine Out.mk true [] [] ?_
        try (conv => whnf)
        exact ⟨109 :: t, by simp; omega, rfl, rfl⟩
/-- How many marks the operations of a log take. -/
def mkN : List OpV → Nat | [] => 0 | o :: l => (o.deps.length + 11) + mkN l
theorem get_oO (m : List OpV) (i : Nat) (h : i < m.length) : (m.map oO)[addN 0 (i : Int).toNat]? = some (oO m[i]) := by
  rw [addN_eq, List.getElem?_map, show 0 + (i : Int).toNat = i by omega, List.getElem?_eq_getElem h]; rfl
theorem get_oO' (m : List OpV) (i : Nat) (h : i < m.length) (o : OpV) : ((m.set i o).map oO)[addN 0 (i : Int).toNat]? = some (oO o) := by
  rw [get_oO _ i (by simpa using h)]; simp
theorem set_oO (m : List OpV) (i : Nat) (f : Nat) (ds : List DV) (o o' : OpV) (hs : splice (oO o) f ds = oO o') : (m.map oO).set (addN 0 (i : Int).toNat) (splice (oO o) f ds) = (m.set i o').map oO := by
  rw [addN_eq, show 0 + (i : Int).toNat = i by omega, hs, List.map_set]
theorem set_oO' (m : List OpV) (i : Nat) (f : Nat) (ds : List DV) (p o o' : OpV) (hs : splice (oO o) f ds = oO o') : ((m.set i p).map oO).set (addN 0 (i : Int).toNat) (splice (oO o) f ds) = (m.set i o').map oO := by
  rw [addN_eq, show 0 + (i : Int).toNat = i by omega, hs, ← List.map_set, List.set_set]
theorem l_markOpS (l : List OpV) (k : Int) (hl : l.length ≤ 2 ^ 20) (hd : ∀ o ∈ l, o.deps.length ≤ 2 ^ 30) (h0 : 0 ≤ k) (h1 : k ≤ 2 ^ 40) :
    CallM Try.prog id_laws_markOpS [.one (.os (.v 0) 12 0 l.length), vI .i64 k] [.own 12 (l.map oO)] [] true fun r Lo => ∃ (n : Int) (m : List OpV), (0 ≤ n ∧ n ≤ 2 ^ 60) ∧ r = vI .i64 n ∧ Lo = [.own 12 (m.map oO)] := by
  refine F_laws_markOpS ?_
  try (conv => whnf)
  refine LoopE.mk (fun x : Nat × Int × List OpV => mk [(0, .one (.os (.v 0) 12 0 l.length)), (1, vI .i64 x.2.1), (5, vI .i64 x.1)] [(0, .own 12 (x.2.2.map oO))])
    (fun x => x.1 ≤ l.length ∧ x.2.2.length = l.length ∧ 0 ≤ x.2.1 ∧ x.2.1 ≤ 2 ^ 40 + x.1 * 2 ^ 31 ∧ ∀ o ∈ x.2.2, o.deps.length ≤ 2 ^ 30) (fun x => l.length - x.1) (0, k, l) ⟨by omega, rfl, h0, by simp only; omega, hd⟩ (LeX.of ?_) ?_
  · try (conv => whnf)
    repeat (refine Need.mk ?_ ?_; (focus (first | omega | (simp; done))); conv => whnf)
    trivial
  · rintro ⟨i, q, m⟩ ⟨hi, hm, hq, hq2, hdm⟩
    simp only at hi hm hq hq2 hdm ⊢
    by_cases hlt : i < l.length
    · have hdo := hdm (m[i]'(by omega)) (List.getElem_mem _)
      generalize ho : (m[i]'(by omega)) = o at hdo
      have g0 := get_oO m i (by omega)
      rw [ho] at g0
      have ha : addN 0 (i : Int).toNat < (m.map oO).length := by rw [addN_eq]; simp; omega
      try (conv => whnf)
      repeat' (first
        | (refine Need.mk ?_ ?_; (focus (first | omega | (simp only [List.length_map, List.length_append, List.length_cons, List.length_nil, List.length_replicate]; omega))); conv => whnf)
        | (refine Pick.mk ?_ ?_ ?_; rotate_left; (focus (first | exact List.set_set .. | (refine List.getElem?_set_self ?_; assumption) | assumption | (simp only [List.length_map, List.length_append, List.length_cons, List.length_nil, List.length_replicate, Nat.zero_add]; rfl) | (refine wid ?_ ?_ <;> omega))); conv => whnf)
        | (refine SeqJ.thru ?_; conv => whnf)
        | (refine br_dec (fun _ => ?_) (fun _ => ?_) <;> first | (exfalso; omega) | contradiction | conv => whnf)
        | (refine br_not ?_; conv => whnf)
        | (refine br_bne (fun _ => ?_) (fun _ => ?_) <;> first | (exfalso; omega) | contradiction | conv => whnf)
        | (refine br_beq (fun _ => ?_) (fun _ => ?_) <;> first | (exfalso; omega) | contradiction | conv => whnf))
      refine Hand.mk [0] ?_
      try (conv => whnf)
      repeat (first
        | (refine Need.mk ?_ ?_; (focus (omega)); conv => whnf)
        | (refine Pick.mk ?_ ?_ ?_; rotate_left; (focus ((refine List.getElem?_set_self ?_; assumption))); conv => whnf))
      refine CallW.m (l_markIntS o.deps _ (by omega) (by omega) (by omega)) ?_
      try (conv => whnf)
      repeat (refine Pick.mk ?_ ?_ ?_; rotate_left; (focus ((refine List.getElem?_set_self ?_; assumption))); conv => whnf)
      refine Need.mk ⟨by simp, fz_self _ _ (fun _ => rfl), fun h => ⟨rfl, by simpa using h⟩⟩ ?_
      try (conv => whnf)
      repeat (first
        | (refine Need.mk ?_ ?_; (focus (first | omega | (simp only [List.length_map, List.length_append, List.length_cons, List.length_nil, List.length_replicate]; omega))); conv => whnf)
        | (refine Pick.mk ?_ ?_ ?_; rotate_left; (focus (first | exact List.set_set .. | (refine List.getElem?_set_self ?_; assumption) | (refine wid ?_ ?_ <;> omega))); conv => whnf))
      refine Hand.mk [] ?_
      try (conv => whnf)
      refine CallW.r (l_markText _ (by omega) (by omega)) ?_
      rintro _ _ ⟨t1, ht1, rfl, rfl⟩
      try (conv => whnf)
      repeat (first
        | (refine Need.mk ?_ ?_; (focus (first | omega | (simp only [List.length_map, List.length_append, List.length_cons, List.length_nil, List.length_replicate]; omega))); conv => whnf)
        | (refine Pick.mk ?_ ?_ ?_; rotate_left; (focus (first | exact List.set_set .. | (refine List.getElem?_set_self ?_; assumption) | (refine wid ?_ ?_ <;> omega))); conv => whnf))
      refine Hand.mk [] ?_
      try (conv => whnf)
      refine CallW.r (l_markText _ (by omega) (by omega)) ?_
      rintro _ _ ⟨t2, ht2, rfl, rfl⟩
      try (conv => whnf)
      repeat (first
        | (refine Need.mk ?_ ?_; (focus (first | omega | (simp only [List.length_map, List.length_append, List.length_cons, List.length_nil, List.length_replicate]; omega))); conv => whnf)
        | (refine Pick.mk ?_ ?_ ?_; rotate_left; (focus (first | exact List.set_set .. | (refine List.getElem?_set_self ?_; assumption) | (refine wid ?_ ?_ <;> omega))); conv => whnf))
      refine Pick.mk (i + 1, q + 1 + 1 + 1 + (o.deps.length : Int) + 1 + 1 + 1 + 1 + 1 + 1 + 1 + 1, m.set i ⟨q, q + 1, q + 1 + 1, markIs (q + 1 + 1 + 1) o.deps.length, q + 1 + 1 + 1 + (o.deps.length : Int), q + 1 + 1 + 1 + (o.deps.length : Int) + 1, q + 1 + 1 + 1 + (o.deps.length : Int) + 1 + 1, q + 1 + 1 + 1 + (o.deps.length : Int) + 1 + 1 + 1, q + 1 + 1 + 1 + (o.deps.length : Int) + 1 + 1 + 1 + 1, q + 1 + 1 + 1 + (o.deps.length : Int) + 1 + 1 + 1 + 1 + 1, t1, t2⟩)
        ⟨⟨by omega, by simpa using hm, by simp only; omega, by simp only; omega, fun x hx => by
          rcases List.mem_or_eq_of_mem_set hx with hx | rfl
          · exact hdm x hx
          · simpa using hdo⟩, by simp only; omega⟩ (LeX.of ?_)
      conv => whnf
      refine Need.mk ⟨rfl, rfl⟩ ?_
      conv => whnf
      refine Need.mk rfl ?_
      conv => whnf
      refine Need.mk rfl ?_
      conv => whnf
      refine Need.mk (by rw [addN_eq, show 0 + (i : Int).toNat = i by omega, List.map_set]; exact congrArg _ (by simp only [oO, splice, markIs_length, List.take_succ_cons, List.take_zero, List.drop_succ_cons, List.drop_zero, List.cons_append, List.nil_append, List.length_cons, List.length_nil, List.take_nil, List.drop_nil, Nat.zero_add, Nat.reduceAdd, List.set_cons_succ, List.set_cons_zero])) ?_
      conv => whnf
      trivial
    · try (conv => whnf)
      repeat' (first
        | (refine SeqJ.thru ?_; conv => whnf)
        | (refine br_dec (fun _ => ?_) (fun _ => ?_) <;> first | (exfalso; omega) | contradiction | conv => whnf)
        | (refine br_not ?_; conv => whnf)
        | (refine br_bne (fun _ => ?_) (fun _ => ?_) <;> first | (exfalso; omega) | contradiction | conv => whnf)
        | (refine br_beq (fun _ => ?_) (fun _ => ?_) <;> first | (exfalso; omega) | contradiction | conv => whnf))
      refine Out.mk false [0, 1, 2, 3, 4] [] ?_
      try (conv => whnf)
      repeat (refine Need.mk ?_ ?_; (focus (exact flat_oO _)); conv => whnf)
      exact ⟨q, m, ⟨hq, by omega⟩, rfl, rfl⟩
end Go.Proofs.Ytpdjehnlejjfmaa.D
/- The law of a log's bytes, as a call that gives back true. -/
namespace Go.Proofs.Ytpdjehnlejjfmaa.D
open Go.RowKit
set_option maxRecDepth 100000
set_option maxHeartbeats 4000000
set_option linter.unusedVariables false
set_option linter.unusedSimpArgs false

theorem logX_len (l : List OpV) : (logX l).length ≤ 1048004 := by
  unfold logX
  split
  · rename_i h; exact logB_len h
  · simp
theorem law_LogBytes (l : List OpV) (hl : l.length ≤ 9223372036854775807) (hd : ∀ o ∈ l, o.deps.length ≤ 9223372036854775807 ∧ o.key.length ≤ 9223372036854775807 ∧ o.text.length ≤ 9223372036854775807) :
    CallD Try.prog id_laws_FnExactLogBytes [vL l] [] (vB true) [] := by
  refine F_laws_FnExactLogBytes ?_
  try (conv => whnf)
  refine Hand.mk [] ?_
  try (conv => whnf)
  refine CallW.d (l_szOpS l 1048576 hl hd (by omega) (by omega)) ?_
  try (conv => whnf)
  repeat (refine SeqJ.thru ?_; conv => whnf)
  by_cases hz : (1048576 : Int) < (l.length + szOps l : Nat)
  · rw [show szL 1048576 (l.length + szOps l) = -1 from if_pos hz]
    try (conv => whnf)
    repeat' (first
      | (refine br_dec (fun _ => ?_) (fun _ => ?_) <;> first | (exfalso; omega) | contradiction | conv => whnf)
      | (refine br_not ?_; conv => whnf)
      | (refine br_bne (fun _ => ?_) (fun _ => ?_) <;> first | (exfalso; omega) | contradiction | conv => whnf)
      | (refine br_beq (fun _ => ?_) (fun _ => ?_) <;> first | (exfalso; omega) | contradiction | conv => whnf))
    refine Out.mk true [] [] ?_
    try (conv => whnf)
    exact ⟨rfl, rfl⟩
  rw [show szL 1048576 (l.length + szOps l) = 1048576 - (l.length + szOps l : Nat) from if_neg hz]
  have hm : ∀ o ∈ l, o.deps.length + o.key.length + o.text.length ≤ 1048576 := fun o ho => by have := szOps_mem ho; omega
  have hBl := logX_len l
  have c1 := s_LogBytes l fun o ho => by have := hm o ho; omega
  have c2 := i_LogBytes l fun o ho => by have := hm o ho; omega
  simp only [logR] at c1 c2
  obtain ⟨B, hB⟩ : ∃ B, B = logX l := ⟨_, rfl⟩
  obtain ⟨e, he⟩ : ∃ e, e = logC l := ⟨_, rfl⟩
  rw [← hB, ← he] at c1 c2
  rw [← hB] at hBl
  have hmk : (marks 1 B.length).length = B.length := by simp [marks]
  have t := l_toOpS l (by omega) fun o ho => by have := hm o ho; omega
  try (conv => whnf)
  repeat' (first
    | (refine br_dec (fun _ => ?_) (fun _ => ?_) <;> first | (exfalso; omega) | contradiction | conv => whnf)
    | (refine br_not ?_; conv => whnf)
    | (refine br_bne (fun _ => ?_) (fun _ => ?_) <;> first | (exfalso; omega) | contradiction | conv => whnf)
    | (refine br_beq (fun _ => ?_) (fun _ => ?_) <;> first | (exfalso; omega) | contradiction | conv => whnf))
  refine Hand.mk [] ?_
  try (conv => whnf)
  refine CallW.d (t) ?_
  try (conv => whnf)
  refine Hand.mk [] ?_
  try (conv => whnf)
  repeat (refine Pick.mk ?_ ?_ ?_; rotate_left; (focus (exact sl_ops _ rfl)); conv => whnf)
  refine CallW.d (c1) ?_
  try (conv => whnf)
  refine Hand.mk [] ?_
  try (conv => whnf)
  refine CallW.d (t) ?_
  try (conv => whnf)
  refine Hand.mk [] ?_
  try (conv => whnf)
  repeat (refine Pick.mk ?_ ?_ ?_; rotate_left; (focus (exact sl_ops _ rfl)); conv => whnf)
  refine CallW.d (c2) ?_
  try (conv => whnf)
  repeat (refine SeqJ.thru ?_; conv => whnf)
  refine Hand.mk [] ?_
  try (conv => whnf)
  repeat (refine Pick.mk ?_ ?_ ?_; rotate_left; (focus ((refine SlF.self _ _ ?_ ?_; (first | rfl | omega | (simp; done) | (simp; omega)); (exact fun _ => rfl)))); conv => whnf)
  refine CallW.d (l_eqByteS B B (by omega) (by omega)) ?_
  try (conv => whnf)
  try (conv => whnf)
  repeat' (first
    | (refine SeqJ.thru ?_; conv => whnf)
    | (refine br_dec (fun _ => ?_) (fun _ => ?_) <;> first | (exfalso; omega) | contradiction | conv => whnf)
    | (refine br_not ?_; conv => whnf)
    | (refine br_bne (fun _ => ?_) (fun _ => ?_) <;> first | (exfalso; omega) | contradiction | conv => whnf)
    | (refine br_beq (fun _ => ?_) (fun _ => ?_) <;> first | (exfalso; omega) | contradiction | conv => whnf))
  refine Hand.mk [] ?_
  try (conv => whnf)
  refine CallW.d (t) ?_
  try (conv => whnf)
  refine Hand.mk [] ?_
  try (conv => whnf)
  repeat (refine Pick.mk ?_ ?_ ?_; rotate_left; (focus (exact sl_ops _ rfl)); conv => whnf)
  refine CallW.d (l_eqOpS l (by omega) (fun o ho => by have := hm o ho; omega)) ?_
  try (conv => whnf)
  try (conv => whnf)
  repeat' (first
    | (refine br_dec (fun _ => ?_) (fun _ => ?_) <;> first | (exfalso; omega) | contradiction | conv => whnf)
    | (refine br_not ?_; conv => whnf)
    | (refine br_bne (fun _ => ?_) (fun _ => ?_) <;> first | (exfalso; omega) | contradiction | conv => whnf)
    | (refine br_beq (fun _ => ?_) (fun _ => ?_) <;> first | (exfalso; omega) | contradiction | conv => whnf))
  refine Hand.mk [0] ?_
  try (conv => whnf)
  refine CallW.r (l_markOpS l 1 (by omega) (fun o ho => by have := hm o ho; omega) (by omega) (by omega)) ?_
  rintro _ _ ⟨n, m, hn, rfl, rfl⟩
  try (conv => whnf)
  repeat (refine SeqJ.thru ?_; conv => whnf)
  try (conv => whnf)
  repeat' (first
    | (refine br_dec (fun _ => ?_) (fun _ => ?_) <;> first | (exfalso; omega) | contradiction | conv => whnf)
    | (refine br_not ?_; conv => whnf)
    | (refine br_bne (fun _ => ?_) (fun _ => ?_) <;> first | (exfalso; omega) | contradiction | conv => whnf)
    | (refine br_beq (fun _ => ?_) (fun _ => ?_) <;> first | (exfalso; omega) | contradiction | conv => whnf))
  refine Hand.mk [] ?_
  try (conv => whnf)
  repeat (refine Pick.mk ?_ ?_ ?_; rotate_left; (focus ((refine SlF.self _ _ ?_ ?_; (first | rfl | omega | (simp; done) | (simp; omega)); (exact fun _ => rfl)))); conv => whnf)
  refine CallW.d (l_eqByteS B B (by omega) (by omega)) ?_
  try (conv => whnf)
  try (conv => whnf)
  repeat' (first
    | (refine br_dec (fun _ => ?_) (fun _ => ?_) <;> first | (exfalso; omega) | contradiction | conv => whnf)
    | (refine br_not ?_; conv => whnf)
    | (refine br_bne (fun _ => ?_) (fun _ => ?_) <;> first | (exfalso; omega) | contradiction | conv => whnf)
    | (refine br_beq (fun _ => ?_) (fun _ => ?_) <;> first | (exfalso; omega) | contradiction | conv => whnf))
  refine Hand.mk [0] ?_
  try (conv => whnf)
  refine CallW.m (l_markByteS B 1 (by omega) (by omega) (by omega)) ?_
  try (conv => whnf)
  refine Hand.mk [] ?_
  try (conv => whnf)
  repeat (refine Pick.mk ?_ ?_ ?_; rotate_left; (focus ((refine SlF.self _ _ ?_ ?_; (first | rfl | omega | (simp; done) | (simp; omega)); (exact fun _ => rfl)))); conv => whnf)
  refine CallW.d (l_heldByteS B.length 1 (by omega) (by omega) (by omega)) ?_
  try (conv => whnf)
  repeat (refine SeqJ.thru ?_; conv => whnf)
  try (conv => whnf)
  repeat' (first
    | (refine br_dec (fun _ => ?_) (fun _ => ?_) <;> first | (exfalso; omega) | contradiction | conv => whnf)
    | (refine br_not ?_; conv => whnf)
    | (refine br_bne (fun _ => ?_) (fun _ => ?_) <;> first | (exfalso; omega) | contradiction | conv => whnf)
    | (refine br_beq (fun _ => ?_) (fun _ => ?_) <;> first | (exfalso; omega) | contradiction | conv => whnf))
  refine Hand.mk [] ?_
  try (conv => whnf)
  refine CallW.d (t) ?_
  try (conv => whnf)
  refine Hand.mk [] ?_
  try (conv => whnf)
  repeat (refine Pick.mk ?_ ?_ ?_; rotate_left; (focus (exact sl_ops _ rfl)); conv => whnf)
  refine CallW.d (c2) ?_
  try (conv => whnf)
  repeat (refine SeqJ.thru ?_; conv => whnf)
  refine Hand.mk [] ?_
  try (conv => whnf)
  repeat (refine Pick.mk ?_ ?_ ?_; rotate_left; (focus ((refine SlF.self _ _ ?_ ?_; (first | rfl | omega | (simp; done) | (simp; omega)); (exact fun _ => rfl)))); conv => whnf)
  refine CallW.d (l_eqByteS B B (by omega) (by omega)) ?_
  try (conv => whnf)
  try (conv => whnf)
  repeat' (first
    | (refine br_dec (fun _ => ?_) (fun _ => ?_) <;> first | (exfalso; omega) | contradiction | conv => whnf)
    | (refine br_not ?_; conv => whnf)
    | (refine br_bne (fun _ => ?_) (fun _ => ?_) <;> first | (exfalso; omega) | contradiction | conv => whnf)
    | (refine br_beq (fun _ => ?_) (fun _ => ?_) <;> first | (exfalso; omega) | contradiction | conv => whnf))
  refine Hand.mk [] ?_
  try (conv => whnf)
  repeat (refine Pick.mk ?_ ?_ ?_; rotate_left; (focus ((refine SlF.self _ _ ?_ ?_; (first | rfl | omega | (simp; done) | (simp; omega)); (exact fun _ => rfl)))); conv => whnf)
  refine CallW.d (l_heldByteS B.length 1 (by omega) (by omega) (by omega)) ?_
  try (conv => whnf)
  repeat (refine SeqJ.thru ?_; conv => whnf)
  try (conv => whnf)
  repeat' (first
    | (refine br_dec (fun _ => ?_) (fun _ => ?_) <;> first | (exfalso; omega) | contradiction | conv => whnf)
    | (refine br_not ?_; conv => whnf)
    | (refine br_bne (fun _ => ?_) (fun _ => ?_) <;> first | (exfalso; omega) | contradiction | conv => whnf)
    | (refine br_beq (fun _ => ?_) (fun _ => ?_) <;> first | (exfalso; omega) | contradiction | conv => whnf))
  refine Out.mk true [] [] ?_
  try (conv => whnf)
  exact ⟨rfl, rfl⟩
end Go.Proofs.Ytpdjehnlejjfmaa.D
/- From a call's contract to the given row: the arguments as they read. -/
namespace Go.Proofs.Ytpdjehnlejjfmaa.D
open Go.ChangeShapes Go.WideShapes Go.ChangeAt Go.RowKit
open Go.ChangeMaps (open_string)
set_option linter.unusedVariables false
set_option linter.unusedSimpArgs false

def cellsV (w : World) : View := fun x => w.cell? x
theorem satL0 (w : World) : SatL w Rows0.none (cellsV w) (fun _ => none) (Lof []) w :=
  ⟨Keep.refl _ _, fun _ _ h => h, fun x v p b n _ h => by simp at h, fun p q b n n' h => by simp at h, fun p b n h => by simp at h, fun p r h => by simp [Lof] at h, ⟨by simp [Rows0.none], fun q x h => by simp [Rows0.none] at h⟩, fun _ _ => ⟨rfl, fun _ _ => rfl⟩,
    fun p r h => by simp [Lof] at h, fun t => .one (.dead _), rfl, rfl⟩
/-- A law that gives true. -/
theorem enter_law {P : Program} {f : FuncId} {args : List SV} {w : World} {vs : List Value} (h : CallD P f args [] (vB true) []) (ha : Args (cellsV w) (fun _ => none) args vs) :
    Calls P f vs.toArray w (fun e w' => e = .returned (.bool true) ∧ Below w.heap.size w w') := by
  refine (h.2 w Rows0.none _ _ vs rfl (satL0 w) ha).mono ?_
  rintro e w' ⟨v, V', bs', res, Lo, rfl, ⟨rfl, rfl⟩, -, -, -, hs, hv, -⟩
  refine ⟨?_, hs.keep.below⟩
  cases hv with
  | one h => cases h with
    | dv h => cases h; rfl
theorem args0 {V : View} {b : Loc} : Args V b [] [] := ⟨rfl, fun i sv v h => by simp at h⟩
theorem argsC {V : View} {b : Loc} {a : SV} {v : Value} {az : List SV} {vs : List Value} (h : VR V b a v) (t : Args V b az vs) : Args V b (a :: az) (v :: vs) :=
  ⟨by simp [t.len], fun i sv u h1 h2 => by
    cases i with
    | zero => simp at h1 h2; subst h1; subst h2; exact h
    | succ i => exact t.get i sv u (by simpa using h1) (by simpa using h2)⟩
section
variable {H : Type} {enc : TypeId × Value → H} {P : Program} {W : World} {base : Nat} {sp : Nat → Bool} {held : Bool}
theorem u8_of {n : Int} (h : (Lit.int .u8 n).wf = true) : ∃ b : UInt8, n = b.toNat := by
  have : 0 ≤ n ∧ n < 256 := by
    simp [Lit.wf, IntKind.min, IntKind.max, IntKind.bits, IntKind.signed] at h
    omega
  exact ⟨u8 n, by rw [u8_val]; omega⟩
theorem list_of {α : Type} (p : α → Int → Prop) : ∀ (zs : List Int), (∀ n ∈ zs, ∃ a, p a n) → ∃ l : List α, l.length = zs.length ∧ ∀ i (h : i < l.length) (h2 : i < zs.length), p l[i] zs[i]
  | [], _ => ⟨[], rfl, fun i h => by simp at h⟩
  | z :: zs, h => by
    obtain ⟨a, ha⟩ := h z (by simp)
    obtain ⟨l, hl, hp⟩ := list_of p zs fun n hn => h n (by simp [hn])
    refine ⟨a :: l, by simp [hl], fun i h h2 => ?_⟩
    cases i with
    | zero => exact ha
    | succ i => exact hp i (by simpa using h) (by simpa using h2)
/-- Cells of one size at a slice's place. -/
theorem rd_cells {W : World} {x : Addr} {len cap : Nat} {es : List DV} {g : Nat → Value} (hl : es.length = len) (hc : len ≤ cap) (hg : ∀ i, i < len → W.cell? (x.add i) = some (g i))
    (hr : ∀ i (h : i < es.length), Rd (cellsV W) (g i) es[i]) : Rd (cellsV W) (.slice (some x) len cap) (.sl (es.map fun e => [e])) := by
  by_cases h0 : len = 0
  · subst h0
    have : es = [] := List.eq_nil_of_length_eq_zero hl
    subst this
    exact .nil _ _
  · have hx : x = ⟨x.block, x.off, none⟩ := by
      have h1 := hg 0 (by omega)
      have h2 : x.add 0 = x := by simp [Addr.add]
      rw [h2] at h1
      have h3 : x.spot = none := by
        simp only [World.cell?] at h1
        split at h1
        · split at h1
          · simp at h1
          · rename_i h; simpa using h
        · simp at h1
      cases x; simp_all
    have := Rd.sl (V := cellsV W) x.block x.off 1 cap (es.map fun e => [e]) (fun i _ => g i) (by simp; omega) (by simp) (fun i j hi hj => by
      have h1 := hg i (by simpa [hl] using hi)
      have h2 : x.add i = ⟨x.block, x.off + i * 1 + j, none⟩ := by
        rcases Nat.eq_zero_or_pos i with rfl | hi0
        · rw [show x.add 0 = x from by simp [Addr.add]]
          simp only [Nat.zero_mul, Nat.add_zero]
          have : j = 0 := by omega
          subst this
          exact hx
        · unfold Addr.add
          rw [if_neg (by omega)]
          have : j = 0 := by omega
          subst this
          simp
      rw [h2] at h1
      exact h1) (fun i j hi hj => by
      simp at hj
      subst hj
      simpa using hr i (by simpa using hi))
    rw [hx]
    simpa [hl] using this
theorem in_bytes {t e : TypeId} {a : Option Addr} {len cap : Nat} {d : DataW H} {ps : List MemPlace} {ts : List TypeId} {ds : List (DataW H)} {j : Nat} (hsz : (DataW.weightsEach P ts ds).all (· ≤ reachBytes) = true) (h1 : ts[j]? = some t) (h2 : ds[j]? = some d)
    (ht : P.underlying t = some (.slice e)) (he : P.underlying e = some (.int .u8)) (hc : P.cellsOf e = 1) (hb : P.bytesOf e = 1)
    (h : DataW.Trod enc P W base sp held t (.slice a len cap) d ps) : ∃ l : List UInt8, l.length = len ∧ l.length ≤ 2 ^ 47 ∧ Rd (cellsV W) (.slice a len cap) (.sl (l.map byD)) := by
  obtain ⟨fuel, hf⟩ := h
  rcases open_ints ht he hc hf with ⟨hcs, _⟩ | ⟨x, l, c, zs, hcs, _, hl, hm, hz, hx, hcell, hwz⟩
  · simp [Value.cells] at hcs
    obtain ⟨rfl, rfl, rfl⟩ := hcs
    exact ⟨[], rfl, by simp, .nil _ _⟩
  · simp [Value.cells] at hcs
    obtain ⟨rfl, rfl, rfl⟩ := hcs
    obtain ⟨hx, _⟩ := Prod.mk.inj hx
    subst hx
    have z := sized_slice hsz h1 h2 ht
    have hr := reachBytes_lt
    rw [hb] at z
    have hll : (lits (H := H) .u8 (zs.take len)).length + (lits (H := H) .u8 (zs.drop len)).length = zs.length := by
      simp [lits]; omega
    have hzl : len ≤ zs.length := by rw [hz]; split <;> omega
    obtain ⟨bsl, hbl, hp⟩ := list_of (fun (b : UInt8) n => n = b.toNat) zs fun n hn => u8_of (hwz n hn)
    refine ⟨bsl.take len, by simp; omega, by simp; omega, ?_⟩
    have := rd_cells (W := W) (x := x) (len := len) (cap := cap) (es := (bsl.take len).map fun b => DV.sc (.int .u8 b.toNat)) (g := fun i => .int .u8 (zs.getD i 0)) (by simp; omega) hl (fun i hi => hcell i (by omega)) (fun i hi => by
      simp only [List.length_map, List.length_take] at hi
      have := hp i (by omega) (by omega)
      simp only [List.getElem_map, List.getElem_take]
      rw [show zs.getD i 0 = zs[i]'(by omega) by simp [List.getD, show i < zs.length by omega], this]
      exact .sc _ rfl)
    rw [List.map_map] at this
    exact this
theorem in_string {r : Reach} {b0 : Nat} {t : TypeId} {v : Value} {d : DataW H} {ps : List MemPlace} {ts : List TypeId} {ds : List (DataW H)} {j : Nat} (hsz : (DataW.weightsEach P ts ds).all (· ≤ reachBytes) = true) (h1 : ts[j]? = some t) (h2 : ds[j]? = some d)
    (ht : P.underlying t = some .string) (hval : Value.okWide P W r b0 t v) (hd : DataW.Trod enc P W base sp held t v d ps) : ∃ l : List UInt8, v = .string (bs l) ∧ l.length ≤ 2 ^ 47 := by
  obtain ⟨s, rfl, rfl, _, _⟩ := open_string ht hval hd
  have := sized_string hsz h1 h2
  have hr := reachBytes_lt
  exact ⟨s.data.toList, by cases s; rfl, by omega⟩
theorem in_int {r : Reach} {b0 : Nat} {t : TypeId} {v : Value} {d : DataW H} {ps : List MemPlace} (ht : P.underlying t = some (.int .i64)) (hval : Value.okWide P W r b0 t v) (hd : DataW.Trod enc P W base sp held t v d ps) :
    ∃ n : Int, v = .int .i64 n ∧ -9223372036854775808 ≤ n ∧ n ≤ 9223372036854775807 := by
  obtain ⟨n, rfl, _, _, h⟩ := open_int ht hval hd
  simp [Lit.wf, IntKind.min, IntKind.max, IntKind.bits, IntKind.signed] at h
  exact ⟨n, rfl, by omega, by omega⟩
theorem vrY {l : List UInt8} {v : Value} {b : Loc} (h : Rd (cellsV W) v (.sl (l.map byD))) : VR (cellsV W) b (vY l) v := .one (.dv h)
theorem vrI {k : IntKind} {n : Int} {V : View} {b : Loc} : VR V b (vI k n) (.int k n) := .one (.dv (.sc _ rfl))
theorem vrS {s : ByteArray} {V : View} {b : Loc} : VR V b (vS s) (.string s) := .one (.dv (.sc _ rfl))
theorem vrB {s : Bool} {V : View} {b : Loc} : VR V b (vB s) (.bool s) := .one (.dv (.sc _ rfl))
end
end Go.Proofs.Ytpdjehnlejjfmaa.D
/- Arguments that are structures, and lists of anything: how they read. -/
namespace Go.Proofs.Ytpdjehnlejjfmaa.D
open Go.ChangeShapes Go.WideShapes Go.ChangeAt Go.RowKit
open Go.ChangeMaps (open_string)
set_option linter.unusedVariables false
set_option linter.unusedSimpArgs false

abbrev lenMax : Nat := 9223372036854775807
theorem RdL.append {V : View} {az : List Value} {bz : List Value} {da db : List DV} (h : RdL V az da) (k : RdL V bz db) : RdL V (az ++ bz) (da ++ db) := by
  induction h with
  | nil => exact k
  | cons h t ih => exact .cons h ih
theorem RdL.crs {V : View} {b : Loc} {vs : List Value} {ds : List DV} (h : RdL V vs ds) : CRs V b (ds.map .dv) vs := by
  induction h with
  | nil => exact .nil
  | cons h t ih => exact .cons (.dv h) ih
theorem RdL.size {V : View} {vs : List Value} {ds : List DV} (h : RdL V vs ds) : vs.length = ds.length := by
  induction h with
  | nil => rfl
  | cons h t ih => simp [ih]
theorem RdL.getD {V : View} {vs : List Value} {ds : List DV} (h : RdL V vs ds) : ∀ (i : Nat) (h1 : i < vs.length) (h2 : i < ds.length), Rd V vs[i] ds[i] := by
  induction h with
  | nil => intro i h1; simp at h1
  | cons h t ih =>
    intro i h1 h2
    cases i with
    | zero => exact h
    | succ i => exact ih i (by simpa using h1) (by simpa using h2)
section
variable {H : Type} (enc : TypeId × Value → H) (P : Program) (W : World)
/-- What is read of a type is an α, in order. -/
def Opens (t : TypeId) {α : Type} (e : α → List DV) (ok : α → Prop) : Prop :=
  ∀ fuel cs x, DataW.trod enc P W 0 (fun _ => true) true fuel t cs = some x → ∃ a, RdL (cellsV W) cs (e a) ∧ ok a
/-- The same, of fields from a place on. -/
def OpensF (fs : List Field) (o m : Nat) {α : Type} (e : α → List DV) (ok : α → Prop) : Prop :=
  ∀ (fuel : Nat) (cs : List Value), o + m ≤ cs.length → (∀ f ∈ fs, ∃ x, DataW.trod enc P W 0 (fun _ => true) true fuel f.type ((cs.drop f.offset).take (P.cellsOf f.type)) = some x) → ∃ a, RdL (cellsV W) ((cs.drop o).take m) (e a) ∧ ok a
variable {enc P W}
theorem Opens.to {t : TypeId} {α β : Type} {e : α → List DV} {ok : α → Prop} {e2 : β → List DV} {ok2 : β → Prop} (h : Opens enc P W t e ok) (f : α → β) (he : ∀ a, e a = e2 (f a)) (hk : ∀ a, ok a → ok2 (f a)) : Opens enc P W t e2 ok2 := by
  intro fuel cs x hx
  obtain ⟨a, h1, h2⟩ := h fuel cs x hx
  exact ⟨f a, he a ▸ h1, hk a h2⟩
theorem opens_int {t : TypeId} (ht : P.underlying t = some (.int .i64)) : Opens enc P W t inD fun n => -9223372036854775808 ≤ n ∧ n ≤ 9223372036854775807 := by
  intro fuel cs x hx
  obtain ⟨n, rfl, rfl, h⟩ := DataW.trod_int ht hx
  simp [Lit.wf, IntKind.min, IntKind.max, IntKind.bits, IntKind.signed] at h
  exact ⟨n, .cons (.sc _ rfl) .nil, by omega, by omega⟩
theorem opens_u8 {t : TypeId} (ht : P.underlying t = some (.int .u8)) : Opens enc P W t byD fun _ => True := by
  intro fuel cs x hx
  obtain ⟨n, rfl, rfl, h⟩ := DataW.trod_int ht hx
  obtain ⟨b, rfl⟩ := u8_of h
  exact ⟨b, .cons (.sc _ rfl) .nil, trivial⟩
theorem opens_bool {t : TypeId} (ht : P.underlying t = some .bool) : Opens enc P W t (fun b : Bool => [.sc (.bool b)]) fun _ => True := by
  intro fuel cs x hx
  obtain ⟨b, rfl, rfl⟩ := DataW.trod_bool ht hx
  exact ⟨b, .cons (.sc _ rfl) .nil, trivial⟩
theorem opens_string {t : TypeId} (ht : P.underlying t = some .string) : Opens enc P W t (fun l : List UInt8 => [.sc (.string (bs l))]) fun l => l.length ≤ lenMax := by
  intro fuel cs x hx
  obtain ⟨s, rfl, rfl, h⟩ := DataW.trod_string ht hx
  refine ⟨s.data.toList, .cons ?_ .nil, by simpa [maxLen, lenMax] using h⟩
  have : bs s.data.toList = s := by cases s; rfl
  rw [this]
  exact .sc _ rfl
theorem opens_slice {t u : TypeId} {α : Type} {e : α → List DV} {ok : α → Prop} (ht : P.underlying t = some (.slice u)) (hk : 0 < P.cellsOf u) (h : Opens enc P W u e ok) :
    Opens enc P W t (fun l : List α => [.sl (l.map e)]) fun l => l.length ≤ lenMax ∧ ∀ a ∈ l, ok a := by
  intro fuel cs x hx
  rcases DataW.trod_slice ht hx with ⟨rfl, rfl⟩ | ⟨a, len, cap, elems, rest, n, rfl, rfl, rfl, -, hlc, hcm, hel, he, -, -⟩
  · exact ⟨[], .cons (.nil _ _) .nil, by simp, by simp⟩
  · rcases Nat.eq_zero_or_pos len with rfl | hlen
    · exact ⟨[], .cons (.nil _ _) .nil, by simp, by simp⟩
    have hall : ∀ i, i < len → ∃ us, us.length = P.cellsOf u ∧ (∀ j (hj : j < us.length), W.cell? ((a.add (i * P.cellsOf u)).add j) = some us[j]) ∧ ∃ b, RdL (cellsV W) us (e b) ∧ ok b := by
      intro i hi
      have h1 := he i hi
      rw [List.getElem?_eq_getElem (by omega), Option.bind_eq_some_iff] at h1
      obtain ⟨us, h2, h3⟩ := h1
      unfold World.cells? at h2
      rw [if_pos (Nat.zero_le _)] at h2
      have h4 := mapM_some_length h2
      simp at h4
      refine ⟨us, h4, fun j hj => ?_, h _ _ _ h3⟩
      have := mapM_some_get h2 j j (by rw [List.getElem?_range (by omega)])
      rw [this, List.getElem?_eq_getElem]
    have hs : a.spot = none := by
      obtain ⟨us, h1, h2, -⟩ := hall 0 hlen
      have h3 := h2 0 (by omega)
      have h4 : (a.add (0 * P.cellsOf u)).add 0 = a := by simp [Addr.add]
      rw [h4] at h3
      simp only [World.cell?] at h3
      split at h3
      · split at h3
        · simp at h3
        · rename_i h; simpa using h
      · simp at h3
    have hall2 : ∀ i, i < len → ∃ b, ∃ us, us.length = P.cellsOf u ∧ (∀ j (hj : j < us.length), W.cell? ⟨a.block, a.off + i * P.cellsOf u + j, none⟩ = some us[j]) ∧ RdL (cellsV W) us (e b) ∧ ok b := by
      intro i hi
      obtain ⟨us, h1, h2, b, h3, h4⟩ := hall i hi
      refine ⟨b, us, h1, fun j hj => ?_, h3, h4⟩
      rw [← h2 j hj]
      congr 1
      cases a with
      | mk b o s =>
        simp only at hs
        subst hs
        unfold Addr.add
        split
        · rename_i h5
          split
          · rename_i h6
            simp [h5, h6]
          · simp [h5]
        · split
          · rename_i h6
            simp [h6]
          · rfl
    have hf : ∃ (F : Nat → α) (U : Nat → List Value), ∀ i, i < len → (U i).length = P.cellsOf u ∧ (∀ j (hj : j < (U i).length), W.cell? ⟨a.block, a.off + i * P.cellsOf u + j, none⟩ = some (U i)[j]) ∧ RdL (cellsV W) (U i) (e (F i)) ∧ ok (F i) := by
      obtain ⟨b0, -⟩ := hall2 0 hlen
      exact ⟨fun i => if hi : i < len then (hall2 i hi).choose else b0, fun i => if hi : i < len then (hall2 i hi).choose_spec.choose else [], fun i hi => by simp only [dif_pos hi]; exact (hall2 i hi).choose_spec.choose_spec⟩
    obtain ⟨F, U, hFU⟩ := hf
    refine ⟨(List.range len).map F, .cons ?_ .nil, by simp [lenMax]; simp [maxLen] at hcm; omega, fun x hx => by simp at hx; obtain ⟨i, hi, rfl⟩ := hx; exact (hFU i hi).2.2.2⟩
    have := Rd.sl (V := cellsV W) a.block a.off (P.cellsOf u) cap (((List.range len).map F).map e) (fun i j => (U i).getD j (.bool true)) (by simpa using hlc) (fun i hi => by
        simp at hi
        have := hFU i hi
        simp [← this.2.2.1.size, this.1]) (fun i j hi hj => by
        simp at hi
        obtain ⟨h1, h2, -⟩ := hFU i hi
        have := h2 j (by omega)
        show W.cell? _ = _
        rw [this, List.getD_eq_getElem?_getD, List.getElem?_eq_getElem (by omega)]; rfl) (fun i j hi hj => by
        simp at hi
        obtain ⟨h1, h2, h3, -⟩ := hFU i hi
        simp at hj
        have h4 := h3.size
        have := h3.getD j (by omega) hj
        simp only [List.getElem_map, List.getElem_range]
        rw [List.getD_eq_getElem?_getD, List.getElem?_eq_getElem (by omega)]
        exact this)
    simp only [List.length_map, List.length_range] at this
    have ha : (⟨a.block, a.off, none⟩ : Addr) = a := by cases a; simp_all
    rw [ha] at this
    exact this
theorem opensF_nil {o : Nat} : OpensF enc P W [] o 0 (fun _ : Unit => []) fun _ => True := by
  intro fuel cs _ _
  exact ⟨(), by simpa using .nil, trivial⟩
theorem opensF_cons {f : Field} {fs : List Field} {o k m : Nat} {α β : Type} {ea : α → List DV} {oka : α → Prop} {eb : β → List DV} {okb : β → Prop} (ho : f.offset = o) (hc : P.cellsOf f.type = k)
    (ha : Opens enc P W f.type ea oka) (hb : OpensF enc P W fs (o + k) m eb okb) : OpensF enc P W (f :: fs) o (k + m) (fun x : α × β => ea x.1 ++ eb x.2) fun x => oka x.1 ∧ okb x.2 := by
  intro fuel cs hl hx
  obtain ⟨x, h1⟩ := hx f (by simp)
  obtain ⟨a, h2, h3⟩ := ha _ _ _ h1
  obtain ⟨b, h4, h5⟩ := hb fuel cs (by omega) fun g hg => hx g (by simp [hg])
  refine ⟨(a, b), ?_, h3, h5⟩
  rw [ho, hc] at h2
  have := h2.append h4
  have e : (cs.drop o).take (k + m) = (cs.drop o).take k ++ (cs.drop (o + k)).take m := by
    rw [List.take_add, List.drop_drop]
  rw [e]
  exact this
theorem opens_struct {t : TypeId} {fs : Array Field} {m : Nat} {α : Type} {e : α → List DV} {ok : α → Prop} (ht : P.underlying t = some (.struct fs)) (hm : P.cellsOf t = m) (h : OpensF enc P W fs.toList 0 m e ok) : Opens enc P W t e ok := by
  intro fuel cs x hx
  obtain ⟨xs, n, rfl, rfl, hl, hxs, hg⟩ := DataW.trod_struct ht hx
  obtain ⟨a, h1, h2⟩ := h n cs (by omega) fun f hf => by
    obtain ⟨i, hi, rfl⟩ := List.getElem_of_mem hf
    have := hg i fs[i] (by simp at hi; simp [hi])
    refine ⟨xs[i]'(by simp at hi; omega), ?_⟩
    simp at hi ⊢
    rw [this, List.getElem?_eq_getElem]
  refine ⟨a, ?_, h2⟩
  simp only [List.drop_zero] at h1
  rwa [List.take_of_length_le (by omega)] at h1
/-- An argument of one cell. -/
theorem arg_one {t : TypeId} {α : Type} {e : α → DV} {ok : α → Prop} (h : Opens enc P W t (fun a => [e a]) ok) {v : Value} {d : DataW H} {ps : List MemPlace} (hv : v.cells = #[v])
    (hd : DataW.Trod enc P W 0 (fun _ => true) true t v d ps) : ∃ a, VR (cellsV W) (fun _ => none) (.one (.dv (e a))) v ∧ ok a := by
  obtain ⟨fuel, hf⟩ := hd
  obtain ⟨a, h1, h2⟩ := h _ _ _ hf
  rw [hv] at h1
  refine ⟨a, .one (.dv ?_), h2⟩
  cases h1 with
  | cons h1 _ => exact h1
/-- An argument that is a structure. -/
theorem arg_agg {t : TypeId} {fs : Array Field} {α : Type} {e : α → List DV} {ok : α → Prop} (h : Opens enc P W t e ok) {r : Reach} {b0 : Nat} {v : Value} {d : DataW H} {ps : List MemPlace} (ht : P.underlying t = some (.struct fs))
    (hval : Value.okWide P W r b0 t v) (hd : DataW.Trod enc P W 0 (fun _ => true) true t v d ps) : ∃ a, VR (cellsV W) (fun _ => none) (.agg ((e a).map .dv)) v ∧ ok a := by
  obtain ⟨cs, rfl, _⟩ := okWide_struct ht hval
  obtain ⟨fuel, hf⟩ := hd
  obtain ⟨a, h1, h2⟩ := h _ _ _ hf
  refine ⟨a, ?_, h2⟩
  have := VR.agg (V := cellsV W) (bs := fun _ => none) h1.crs
  simpa [Value.cells] using this
theorem arg_slice {t u : TypeId} {α : Type} {e : α → List DV} {ok : α → Prop} (ht : P.underlying t = some (.slice u)) (hk : 0 < P.cellsOf u) (h : Opens enc P W u e ok) {r : Reach} {b0 : Nat} {v : Value} {d : DataW H} {ps : List MemPlace}
    (hval : Value.okWide P W r b0 t v) (hd : DataW.Trod enc P W 0 (fun _ => true) true t v d ps) : ∃ l : List α, VR (cellsV W) (fun _ => none) (.one (.dv (.sl (l.map e)))) v ∧ l.length ≤ lenMax ∧ ∀ a ∈ l, ok a := by
  obtain ⟨a, n, c, rfl⟩ := okWide_slice ht hval
  exact arg_one (e := fun l : List α => .sl (l.map e)) (opens_slice ht hk h) rfl hd
end
end Go.Proofs.Ytpdjehnlejjfmaa.D
/- Operations as arguments. -/
namespace Go.Proofs.Ytpdjehnlejjfmaa.D
open Go.RowKit
set_option linter.unusedVariables false

abbrev OpT := Int × Int × Int × (List Int × Unit) × Int × Int × Int × Int × (Int × Int × Unit) × List UInt8 × List UInt8 × Unit
def opOf (x : OpT) : OpV := ⟨x.1, x.2.1, x.2.2.1, x.2.2.2.1.1, x.2.2.2.2.1, x.2.2.2.2.2.1, x.2.2.2.2.2.2.1, x.2.2.2.2.2.2.2.1, x.2.2.2.2.2.2.2.2.1.1, x.2.2.2.2.2.2.2.2.1.2.1, x.2.2.2.2.2.2.2.2.2.1, x.2.2.2.2.2.2.2.2.2.2.1⟩
/-- The lengths of an operation that is an argument. -/
abbrev opIn (o : OpV) : Prop := o.deps.length ≤ 9223372036854775807 ∧ o.key.length ≤ 9223372036854775807 ∧ o.text.length ≤ 9223372036854775807
end Go.Proofs.Ytpdjehnlejjfmaa.D
