/- An operation as bytes, by both. -/
import Derived.Test.YtpdjehnlejjfmaaJ6
set_option linter.unusedVariables false
set_option linter.unusedSimpArgs false
namespace Go.Proofs.Ytpdjehnlejjfmaa.D
open Go.RowKit
set_option maxRecDepth 100000
set_option maxHeartbeats 4000000
set_option linter.unusedVariables false
set_option linter.unusedSimpArgs false

def nums (o : OpV) : List Int := [o.actor, o.seq, o.time, o.kind, o.obj, (zig o.n : Int), o.undo, o.atT, o.atA]
def opB (o : OpV) : List UInt8 := putR (nums o ++ o.deps) ++ putT [o.key, o.text]
theorem i_numbers (o : OpV) (h : -4611686018427387903 ≤ o.n ∧ o.n ≤ 4611686018427387903) : CallD Try.prog id_impl_Op_numbers [vO o] [] (.agg ((nums o).map cI)) [] := by
 refine F_impl_Op_numbers ?_
 try (conv => whnf)
 refine Hand.mk [] ?_
 try (conv => whnf)
 refine CallW.d (i_zig o.n h) ?_
 try (conv => whnf)
 repeat (refine Need.mk ?_ ?_; (focus (((conv => whnf); (repeat (first | (refine Need.mk (by first | rfl | omega | (simp; done)) ?_; conv => whnf) | (refine Pick.mk ?_ ?_ ?_; rotate_left; (focus (first | with_reducible exact xor_u8 _ _ | (with_reducible refine xor_i64 ?_ ?_; all_goals omega) | (with_reducible refine xor_u32 ?_ ?_; all_goals omega) | assumption | with_reducible exact set_byN _ _ _ _ | with_reducible exact set_byI _ _ _ _ | with_reducible exact set_inN _ _ _ _ | with_reducible exact set_inI _ _ _ _ | with_reducible exact set_stN _ _ _ _ | with_reducible exact set_tsN _ _ _ _ | with_reducible exact set_tsI _ _ _ _ | with_reducible exact set_boN _ _ _ _ | with_reducible exact set_boI _ _ _ _ | (with_reducible refine get_mapN _ _ _ ?_; first | omega | (simp; omega)) | (with_reducible refine get_mapI _ _ _ ?_ ?_ <;> first | omega | (simp; omega)) | exact bs_beq _ _ | exact bs_less _ _ | exact bs_leq _ _ | with_reducible exact bs_app _ _ | (refine bs_get _ _ ?_; omega) | (refine bs_int _ _ ?_ ?_ <;> omega) | with_reducible exact sl_map0 _ _ _ | with_reducible exact sl_mapN _ _ _ | with_reducible exact sl_map _ _ _ _ | exact bs_extract0 _ _ | exact bs_extractN _ _ | exact bs_extract _ _ _ | (refine bnd_id ?_; omega) | (refine bnd_sub ?_ ?_ <;> omega) | (refine bnd_add ?_; omega) | (refine bnd_subN ?_ ?_ <;> omega) | (refine bnd_int ?_ ?_ <;> omega) | ((show @Eq Nat (_ + Int.toNat _ * _) _); simp only [Int.toNat_natCast, Nat.zero_add, Nat.mul_one]; rfl) | ((show @Eq (List _) (List.set [_] _ _) _); simp only [List.set_cons_zero]; rfl) | exact List.length_map _ | exact size_bs _ | (simp only [List.length_map, List.length_append, List.length_cons, List.length_nil, List.length_replicate, Nat.zero_add]; rfl) | with_reducible exact List.nil_append _ | with_reducible exact map_app _ _ _ | exact map_snoc byD _ _ | exact map_snoc inD _ _ | exact map_snoc stD _ _ | exact map_snoc tsD _ _ | (simp only [chunks]; rfl) | (refine wid ?_ ?_ <;> omega) | exact wby _ | with_reducible exact wby32 _ | with_reducible exact wu32 _ | exact wby64 _ | exact shr8 _ | exact shr16 _ | exact shr24 _ | exact shr32 _ | (refine tmodn ?_; omega) | (refine wdiv ?_ ?_ ?_ <;> omega) | exact wbyte _ | exact natlit _ | exact rep_by _ | exact rep_in _ | exact rep_bo _ | exact rep_st _ | (refine pick_nat _ _ _ ?_; omega) | (refine pick_int _ _ _ ?_ ?_ <;> omega) | (refine SlOf.full ?_; first | (simp; done) | (simp; omega)) | (with_reducible refine SlOf.pre _ _ ?_; first | omega | (simp; omega)) | (refine SlF.self _ _ ?_ ?_; (first | rfl | omega | (simp; done) | (simp; omega)); (exact fun _ => rfl)) | (refine SlF.pre _ _ ?_ ?_; (first | omega | (simp; omega)); (exact fun _ => rfl)) | (refine SlF.same ?_ ?_; (first | rfl | omega | (simp; done) | (simp; omega)); (first | exact fz_self _ _ (fun _ => rfl) | exact fz_pl rfl | (refine Fz.append ?_ ?_ <;> first | exact fz_self _ _ (fun _ => rfl) | exact fz_pl rfl) | (refine Fz.append (Fz.append ?_ ?_) ?_ <;> first | exact fz_self _ _ (fun _ => rfl) | exact fz_pl rfl))) | (simp only [Int.toNat_natCast, Nat.zero_add, Nat.mul_one]; rfl) | ((show @Eq (Option CV) _ _); rfl) | ((fail_if_success (show @Eq (Option _) _ _)); rfl) | ((show @Eq (Option _) _ _); simp only [List.getElem?_cons_zero, List.getElem?_cons_succ]; done) | ((show @Eq (Option _) _ _); simp only [List.getElem?_cons_zero, List.getElem?_cons_succ]; rfl) | with_reducible rfl)); conv => whnf))); exact Done.mk trivial))); conv => whnf)
 refine Out.mk true [] [] ?_
 try (conv => whnf)
 exact ⟨rfl, rfl⟩
theorem nums_in {o : OpV} (h : OpOk o) : ∀ x ∈ nums o ++ o.deps, inM x := by
 obtain ⟨⟨t1, a1⟩, s, v, _, ob, n, u, _, at_, k⟩ := h
 have hz : (zig o.n : Int) ≤ 2000000000000 := by unfold zig; split <;> omega
 have hA : 0 ≤ o.atT ∧ o.atT ≤ 1000000000000 ∧ 0 ≤ o.atA ∧ o.atA < 16 := by
  rcases at_ with ⟨h1, h2⟩ | ⟨⟨h1, h2⟩, _⟩ <;> omega
 have hK : 1 ≤ o.kind ∧ o.kind ≤ 4 := by
  rcases k with k | k | k | k <;> omega
 intro x hx
 rcases List.mem_append.1 hx with hx | hx
 ·simp only [nums, List.mem_cons, List.not_mem_nil, or_false] at hx
  unfold inM M4
  rcases hx with rfl | rfl | rfl | rfl | rfl | rfl | rfl | rfl | rfl <;> omega
 ·have := v.2 x hx
  unfold cntOk at this
  unfold inM M4
  omega
theorem putR_nums {o : OpV} (h : OpOk o) : (putR (nums o ++ o.deps)).length ≤ 1000 := by
 have hd := h.vec.1
 have hl : (nums o ++ o.deps).length = 25 := by simp [nums, hd]
 have h1 := putRs_len _ (nums o ++ o.deps) (Nat.le_refl _) (nums_in h) (by omega)
 have h2 := put_len (n := (nums o ++ o.deps).length) (by omega)
 rw [putR, List.length_append]
 omega
theorem opB_len {o : OpV} (h : OpOk o) : (opB o).length ≤ 3000 := by
 have h1 := putR_nums h
 have hw := h.words
 have h2 := putTs_len [o.key, o.text] [] (by simp [total]; omega)
 have h3 := put_len (n := [o.key, o.text].length) (by simp)
 rw [opB, List.length_append, putT, List.length_append]
 simp [total] at h2 h3
 simp
 omega
theorem i_opBytes (o : OpV) (h : OpOk o) : CallD Try.prog id_impl_opBytes [vO o] [] (.one (.os (.v 0) 1 0 (opB o).length)) [.own 1 ((opB o).map byD)] := by
 refine F_impl_opBytes ?_
 have hn := h.num
 have hd := h.vec.1
 have hi := nums_in h
 try (conv => whnf)
 refine Hand.mk [] ?_
 try (conv => whnf)
 refine CallW.d (i_numbers o (by omega)) ?_
 try (conv => whnf)
 repeat (first
  | (refine Need.mk ?_ ?_; (focus (first | (simp only [List.length_map, List.length_append, List.length_cons, List.length_nil, List.length_replicate]; omega) | (simp; done))); conv => whnf)
  | (refine Pick.mk ?_ ?_ ?_; rotate_left; (focus (first | exact List.length_map _ | (simp only [List.length_map, List.length_append, List.length_cons, List.length_nil, List.length_replicate, Nat.zero_add]; rfl))); conv => whnf))
 have hl : (nums o ++ o.deps).length ≤ 2 ^ 40 := by simp [nums, hd]
 have hw := h.words
 refine Hand.mk [] ?_
 try (conv => whnf)
 repeat (refine Pick.mk ?_ ?_ ?_; rotate_left; (focus ((refine SlF.same ?_ ?_; (first | rfl | omega | (simp; done) | (simp; omega)); (first | exact fz_self _ _ (fun _ => rfl) | exact fz_pl rfl | (refine Fz.append ?_ ?_ <;> first | exact fz_self _ _ (fun _ => rfl) | exact fz_pl rfl) | (refine Fz.append (Fz.append ?_ ?_) ?_ <;> first | exact fz_self _ _ (fun _ => rfl) | exact fz_pl rfl))))); conv => whnf)
 refine CallW.d (i_appendRuns_nil (nums o ++ o.deps) hi hl) ?_
 try (conv => whnf)
 repeat (refine Pick.mk ?_ ?_ ?_; rotate_left; (focus ((simp only [chunks]; rfl))); conv => whnf)
 have hb : (putR (nums o ++ o.deps)).length ≤ 1000 := putR_nums h
 refine Hand.mk [0] ?_
 try (conv => whnf)
 repeat (refine Pick.mk ?_ ?_ ?_; rotate_left; (focus ((refine SlF.same ?_ ?_; (first | rfl | omega | (simp; done) | (simp; omega)); (first | exact fz_self _ _ (fun _ => rfl) | exact fz_pl rfl | (refine Fz.append ?_ ?_ <;> first | exact fz_self _ _ (fun _ => rfl) | exact fz_pl rfl) | (refine Fz.append (Fz.append ?_ ?_) ?_ <;> first | exact fz_self _ _ (fun _ => rfl) | exact fz_pl rfl))))); conv => whnf)
 refine CallW.m (i_appendTexts (putR (nums o ++ o.deps)) _ [o.key, o.text] rfl (by omega) (by simp) (by simp [total]; omega)) ?_
 try (conv => whnf)
 refine Out.mk false [0, 1, 2, 3, 4] [] ?_
 try (conv => whnf)
 repeat (refine Need.mk ?_ ?_; (focus ((first | exact flat_by _ | exact flat_in _ | exact flat_st _ | exact flat_ts _ | exact flat_bo _ | exact flat_cl rfl))); conv => whnf)
 exact ⟨by simp [opB], by simp [opB]⟩
theorem s_l08Sign (d : Int) (h : -4611686018427387903 ≤ d ∧ d ≤ 4611686018427387903) : CallD Try.prog id_spec_l08Sign [vI .i64 d] [] (vI .i64 (zig d)) [] := by
 refine F_spec_l08Sign ?_
 try (conv => whnf)
 repeat' (first
  | (refine Pick.mk ?_ ?_ ?_; rotate_left; (focus ((refine wid ?_ ?_ <;> omega))); conv => whnf)
  | (refine SeqJ.thru ?_; conv => whnf)
  | (refine br_dec (fun _ => ?_) (fun _ => ?_) <;> first | (exfalso; omega) | contradiction | conv => whnf)
  | (refine br_not ?_; conv => whnf)
  | (refine br_bne (fun _ => ?_) (fun _ => ?_) <;> first | (exfalso; omega) | contradiction | conv => whnf)
  | (refine br_beq (fun _ => ?_) (fun _ => ?_) <;> first | (exfalso; omega) | contradiction | conv => whnf))
 all_goals
  refine Out.mk true [] [] ?_
  try (conv => whnf)
 all_goals
  first
  | exact ⟨by simp only [zig]; rw [if_pos (by omega)]; congr; omega, rfl⟩
  | exact ⟨by simp only [zig]; rw [if_neg (by omega)]; congr; omega, rfl⟩
theorem s_l12Bytes (o : OpV) (h : OpOk o) : CallD Try.prog id_spec_l12Bytes [vO o] [] (.one (.os (.v 0) 1 0 (opB o).length)) [.own 1 ((opB o).map byD)] := by
 refine F_spec_l12Bytes ?_
 have hn := h.num
 have hd := h.vec.1
 have hw := h.words
 have hi := nums_in h
 have hl : (nums o ++ o.deps).length ≤ 2 ^ 40 := by simp [nums, hd]
 have hb : (putR (nums o ++ o.deps)).length ≤ 1000 := putR_nums h
 have hp : (putT [o.key, o.text]).length ≤ 1000 := by
  have h2 := putTs_len [o.key, o.text] [] (by simp [total]; omega)
  have h3 := put_len (n := [o.key, o.text].length) (by simp)
  rw [putT, List.length_append]
  simp [total] at h2 h3 ⊢
  omega
 try (conv => whnf)
 refine Hand.mk [] ?_
 try (conv => whnf)
 refine CallW.d (s_l08Sign o.n (by omega)) ?_
 try (conv => whnf)
 repeat (first
  | (refine Need.mk ?_ ?_; (focus (first | omega | (simp; done) | ((conv => whnf); (repeat (first | (refine Need.mk (by first | rfl | omega | (simp; done)) ?_; conv => whnf) | (refine Pick.mk ?_ ?_ ?_; rotate_left; (focus (first | with_reducible exact xor_u8 _ _ | (with_reducible refine xor_i64 ?_ ?_; all_goals omega) | (with_reducible refine xor_u32 ?_ ?_; all_goals omega) | assumption | with_reducible exact set_byN _ _ _ _ | with_reducible exact set_byI _ _ _ _ | with_reducible exact set_inN _ _ _ _ | with_reducible exact set_inI _ _ _ _ | with_reducible exact set_stN _ _ _ _ | with_reducible exact set_tsN _ _ _ _ | with_reducible exact set_tsI _ _ _ _ | with_reducible exact set_boN _ _ _ _ | with_reducible exact set_boI _ _ _ _ | (with_reducible refine get_mapN _ _ _ ?_; first | omega | (simp; omega)) | (with_reducible refine get_mapI _ _ _ ?_ ?_ <;> first | omega | (simp; omega)) | exact bs_beq _ _ | exact bs_less _ _ | exact bs_leq _ _ | with_reducible exact bs_app _ _ | (refine bs_get _ _ ?_; omega) | (refine bs_int _ _ ?_ ?_ <;> omega) | with_reducible exact sl_map0 _ _ _ | with_reducible exact sl_mapN _ _ _ | with_reducible exact sl_map _ _ _ _ | exact bs_extract0 _ _ | exact bs_extractN _ _ | exact bs_extract _ _ _ | (refine bnd_id ?_; omega) | (refine bnd_sub ?_ ?_ <;> omega) | (refine bnd_add ?_; omega) | (refine bnd_subN ?_ ?_ <;> omega) | (refine bnd_int ?_ ?_ <;> omega) | ((show @Eq Nat (_ + Int.toNat _ * _) _); simp only [Int.toNat_natCast, Nat.zero_add, Nat.mul_one]; rfl) | ((show @Eq (List _) (List.set [_] _ _) _); simp only [List.set_cons_zero]; rfl) | exact List.length_map _ | exact size_bs _ | (simp only [List.length_map, List.length_append, List.length_cons, List.length_nil, List.length_replicate, Nat.zero_add]; rfl) | with_reducible exact List.nil_append _ | with_reducible exact map_app _ _ _ | exact map_snoc byD _ _ | exact map_snoc inD _ _ | exact map_snoc stD _ _ | exact map_snoc tsD _ _ | (simp only [chunks]; rfl) | (refine wid ?_ ?_ <;> omega) | exact wby _ | with_reducible exact wby32 _ | with_reducible exact wu32 _ | exact wby64 _ | exact shr8 _ | exact shr16 _ | exact shr24 _ | exact shr32 _ | (refine tmodn ?_; omega) | (refine wdiv ?_ ?_ ?_ <;> omega) | exact wbyte _ | exact natlit _ | exact rep_by _ | exact rep_in _ | exact rep_bo _ | exact rep_st _ | (refine pick_nat _ _ _ ?_; omega) | (refine pick_int _ _ _ ?_ ?_ <;> omega) | (refine SlOf.full ?_; first | (simp; done) | (simp; omega)) | (with_reducible refine SlOf.pre _ _ ?_; first | omega | (simp; omega)) | (refine SlF.self _ _ ?_ ?_; (first | rfl | omega | (simp; done) | (simp; omega)); (exact fun _ => rfl)) | (refine SlF.pre _ _ ?_ ?_; (first | omega | (simp; omega)); (exact fun _ => rfl)) | (refine SlF.same ?_ ?_; (first | rfl | omega | (simp; done) | (simp; omega)); (first | exact fz_self _ _ (fun _ => rfl) | exact fz_pl rfl | (refine Fz.append ?_ ?_ <;> first | exact fz_self _ _ (fun _ => rfl) | exact fz_pl rfl) | (refine Fz.append (Fz.append ?_ ?_) ?_ <;> first | exact fz_self _ _ (fun _ => rfl) | exact fz_pl rfl))) | (simp only [Int.toNat_natCast, Nat.zero_add, Nat.mul_one]; rfl) | ((show @Eq (Option CV) _ _); rfl) | ((fail_if_success (show @Eq (Option _) _ _)); rfl) | ((show @Eq (Option _) _ _); simp only [List.getElem?_cons_zero, List.getElem?_cons_succ]; done) | ((show @Eq (Option _) _ _); simp only [List.getElem?_cons_zero, List.getElem?_cons_succ]; rfl) | with_reducible rfl)); conv => whnf))); exact Done.mk trivial))); conv => whnf)
  | (refine Pick.mk ?_ ?_ ?_; rotate_left; (focus (first | (simp only [List.length_map, List.length_append, List.length_cons, List.length_nil, List.length_replicate, Nat.zero_add]; rfl) | (simp only [chunks]; rfl) | (refine SlOf.full ?_; first | (simp; done) | (simp; omega)) | ((fail_if_success (show @Eq (Option _) _ _)); rfl))); conv => whnf)
  | (refine SeqJ.thru ?_; conv => whnf))
 refine Need.mk ?_ ?_
 all_goals
  try (conv => whnf)
  repeat (first
   | (refine Need.mk ?_ ?_; (focus (((conv => whnf); (repeat (first | (refine Need.mk (by first | rfl | omega | (simp; done)) ?_; conv => whnf) | (refine Pick.mk ?_ ?_ ?_; rotate_left; (focus (first | with_reducible exact xor_u8 _ _ | (with_reducible refine xor_i64 ?_ ?_; all_goals omega) | (with_reducible refine xor_u32 ?_ ?_; all_goals omega) | assumption | with_reducible exact set_byN _ _ _ _ | with_reducible exact set_byI _ _ _ _ | with_reducible exact set_inN _ _ _ _ | with_reducible exact set_inI _ _ _ _ | with_reducible exact set_stN _ _ _ _ | with_reducible exact set_tsN _ _ _ _ | with_reducible exact set_tsI _ _ _ _ | with_reducible exact set_boN _ _ _ _ | with_reducible exact set_boI _ _ _ _ | (with_reducible refine get_mapN _ _ _ ?_; first | omega | (simp; omega)) | (with_reducible refine get_mapI _ _ _ ?_ ?_ <;> first | omega | (simp; omega)) | exact bs_beq _ _ | exact bs_less _ _ | exact bs_leq _ _ | with_reducible exact bs_app _ _ | (refine bs_get _ _ ?_; omega) | (refine bs_int _ _ ?_ ?_ <;> omega) | with_reducible exact sl_map0 _ _ _ | with_reducible exact sl_mapN _ _ _ | with_reducible exact sl_map _ _ _ _ | exact bs_extract0 _ _ | exact bs_extractN _ _ | exact bs_extract _ _ _ | (refine bnd_id ?_; omega) | (refine bnd_sub ?_ ?_ <;> omega) | (refine bnd_add ?_; omega) | (refine bnd_subN ?_ ?_ <;> omega) | (refine bnd_int ?_ ?_ <;> omega) | ((show @Eq Nat (_ + Int.toNat _ * _) _); simp only [Int.toNat_natCast, Nat.zero_add, Nat.mul_one]; rfl) | ((show @Eq (List _) (List.set [_] _ _) _); simp only [List.set_cons_zero]; rfl) | exact List.length_map _ | exact size_bs _ | (simp only [List.length_map, List.length_append, List.length_cons, List.length_nil, List.length_replicate, Nat.zero_add]; rfl) | with_reducible exact List.nil_append _ | with_reducible exact map_app _ _ _ | exact map_snoc byD _ _ | exact map_snoc inD _ _ | exact map_snoc stD _ _ | exact map_snoc tsD _ _ | (simp only [chunks]; rfl) | (refine wid ?_ ?_ <;> omega) | exact wby _ | with_reducible exact wby32 _ | with_reducible exact wu32 _ | exact wby64 _ | exact shr8 _ | exact shr16 _ | exact shr24 _ | exact shr32 _ | (refine tmodn ?_; omega) | (refine wdiv ?_ ?_ ?_ <;> omega) | exact wbyte _ | exact natlit _ | exact rep_by _ | exact rep_in _ | exact rep_bo _ | exact rep_st _ | (refine pick_nat _ _ _ ?_; omega) | (refine pick_int _ _ _ ?_ ?_ <;> omega) | (refine SlOf.full ?_; first | (simp; done) | (simp; omega)) | (with_reducible refine SlOf.pre _ _ ?_; first | omega | (simp; omega)) | (refine SlF.self _ _ ?_ ?_; (first | rfl | omega | (simp; done) | (simp; omega)); (exact fun _ => rfl)) | (refine SlF.pre _ _ ?_ ?_; (first | omega | (simp; omega)); (exact fun _ => rfl)) | (refine SlF.same ?_ ?_; (first | rfl | omega | (simp; done) | (simp; omega)); (first | exact fz_self _ _ (fun _ => rfl) | exact fz_pl rfl | (refine Fz.append ?_ ?_ <;> first | exact fz_self _ _ (fun _ => rfl) | exact fz_pl rfl) | (refine Fz.append (Fz.append ?_ ?_) ?_ <;> first | exact fz_self _ _ (fun _ => rfl) | exact fz_pl rfl))) | (simp only [Int.toNat_natCast, Nat.zero_add, Nat.mul_one]; rfl) | ((show @Eq (Option CV) _ _); rfl) | ((fail_if_success (show @Eq (Option _) _ _)); rfl) | ((show @Eq (Option _) _ _); simp only [List.getElem?_cons_zero, List.getElem?_cons_succ]; done) | ((show @Eq (Option _) _ _); simp only [List.getElem?_cons_zero, List.getElem?_cons_succ]; rfl) | with_reducible rfl)); conv => whnf))); exact Done.mk trivial))); conv => whnf)
   | (refine Pick.mk ?_ ?_ ?_; rotate_left; (focus ((simp only [chunks]; rfl))); conv => whnf))
  refine Hand.mk [] ?_
  try (conv => whnf)
  repeat (refine Pick.mk ?_ ?_ ?_; rotate_left; (focus ((refine SlF.same ?_ ?_; (first | rfl | omega | (simp; done) | (simp; omega)); (first | exact fz_self _ _ (fun _ => rfl) | exact fz_pl rfl | (refine Fz.append ?_ ?_ <;> first | exact fz_self _ _ (fun _ => rfl) | exact fz_pl rfl) | (refine Fz.append (Fz.append ?_ ?_) ?_ <;> first | exact fz_self _ _ (fun _ => rfl) | exact fz_pl rfl))))); conv => whnf)
  refine CallW.d (s_l01PutRuns (nums o ++ o.deps) hi hl) ?_
  try (conv => whnf)
  repeat (first
   | (refine Need.mk ?_ ?_; (focus (((conv => whnf); (repeat (first | (refine Need.mk (by first | rfl | omega | (simp; done)) ?_; conv => whnf) | (refine Pick.mk ?_ ?_ ?_; rotate_left; (focus (first | with_reducible exact xor_u8 _ _ | (with_reducible refine xor_i64 ?_ ?_; all_goals omega) | (with_reducible refine xor_u32 ?_ ?_; all_goals omega) | assumption | with_reducible exact set_byN _ _ _ _ | with_reducible exact set_byI _ _ _ _ | with_reducible exact set_inN _ _ _ _ | with_reducible exact set_inI _ _ _ _ | with_reducible exact set_stN _ _ _ _ | with_reducible exact set_tsN _ _ _ _ | with_reducible exact set_tsI _ _ _ _ | with_reducible exact set_boN _ _ _ _ | with_reducible exact set_boI _ _ _ _ | (with_reducible refine get_mapN _ _ _ ?_; first | omega | (simp; omega)) | (with_reducible refine get_mapI _ _ _ ?_ ?_ <;> first | omega | (simp; omega)) | exact bs_beq _ _ | exact bs_less _ _ | exact bs_leq _ _ | with_reducible exact bs_app _ _ | (refine bs_get _ _ ?_; omega) | (refine bs_int _ _ ?_ ?_ <;> omega) | with_reducible exact sl_map0 _ _ _ | with_reducible exact sl_mapN _ _ _ | with_reducible exact sl_map _ _ _ _ | exact bs_extract0 _ _ | exact bs_extractN _ _ | exact bs_extract _ _ _ | (refine bnd_id ?_; omega) | (refine bnd_sub ?_ ?_ <;> omega) | (refine bnd_add ?_; omega) | (refine bnd_subN ?_ ?_ <;> omega) | (refine bnd_int ?_ ?_ <;> omega) | ((show @Eq Nat (_ + Int.toNat _ * _) _); simp only [Int.toNat_natCast, Nat.zero_add, Nat.mul_one]; rfl) | ((show @Eq (List _) (List.set [_] _ _) _); simp only [List.set_cons_zero]; rfl) | exact List.length_map _ | exact size_bs _ | (simp only [List.length_map, List.length_append, List.length_cons, List.length_nil, List.length_replicate, Nat.zero_add]; rfl) | with_reducible exact List.nil_append _ | with_reducible exact map_app _ _ _ | exact map_snoc byD _ _ | exact map_snoc inD _ _ | exact map_snoc stD _ _ | exact map_snoc tsD _ _ | (simp only [chunks]; rfl) | (refine wid ?_ ?_ <;> omega) | exact wby _ | with_reducible exact wby32 _ | with_reducible exact wu32 _ | exact wby64 _ | exact shr8 _ | exact shr16 _ | exact shr24 _ | exact shr32 _ | (refine tmodn ?_; omega) | (refine wdiv ?_ ?_ ?_ <;> omega) | exact wbyte _ | exact natlit _ | exact rep_by _ | exact rep_in _ | exact rep_bo _ | exact rep_st _ | (refine pick_nat _ _ _ ?_; omega) | (refine pick_int _ _ _ ?_ ?_ <;> omega) | (refine SlOf.full ?_; first | (simp; done) | (simp; omega)) | (with_reducible refine SlOf.pre _ _ ?_; first | omega | (simp; omega)) | (refine SlF.self _ _ ?_ ?_; (first | rfl | omega | (simp; done) | (simp; omega)); (exact fun _ => rfl)) | (refine SlF.pre _ _ ?_ ?_; (first | omega | (simp; omega)); (exact fun _ => rfl)) | (refine SlF.same ?_ ?_; (first | rfl | omega | (simp; done) | (simp; omega)); (first | exact fz_self _ _ (fun _ => rfl) | exact fz_pl rfl | (refine Fz.append ?_ ?_ <;> first | exact fz_self _ _ (fun _ => rfl) | exact fz_pl rfl) | (refine Fz.append (Fz.append ?_ ?_) ?_ <;> first | exact fz_self _ _ (fun _ => rfl) | exact fz_pl rfl))) | (simp only [Int.toNat_natCast, Nat.zero_add, Nat.mul_one]; rfl) | ((show @Eq (Option CV) _ _); rfl) | ((fail_if_success (show @Eq (Option _) _ _)); rfl) | ((show @Eq (Option _) _ _); simp only [List.getElem?_cons_zero, List.getElem?_cons_succ]; done) | ((show @Eq (Option _) _ _); simp only [List.getElem?_cons_zero, List.getElem?_cons_succ]; rfl) | with_reducible rfl)); conv => whnf))); exact Done.mk trivial))); conv => whnf)
   | (refine Pick.mk ?_ ?_ ?_; rotate_left; (focus ((simp only [chunks]; rfl))); conv => whnf))
  refine Hand.mk [] ?_
  try (conv => whnf)
  repeat (refine Pick.mk ?_ ?_ ?_; rotate_left; (focus ((refine SlF.same ?_ ?_; (first | rfl | omega | (simp; done) | (simp; omega)); (first | exact fz_self _ _ (fun _ => rfl) | exact fz_pl rfl | (refine Fz.append ?_ ?_ <;> first | exact fz_self _ _ (fun _ => rfl) | exact fz_pl rfl) | (refine Fz.append (Fz.append ?_ ?_) ?_ <;> first | exact fz_self _ _ (fun _ => rfl) | exact fz_pl rfl))))); conv => whnf)
  refine CallW.r (s_l01PutTexts [o.key, o.text] (by simp) (by simp [total]; omega)) ?_
  rintro _ _ ⟨l, rfl, rfl, hx⟩
  obtain rfl : l = putT [o.key, o.text] := by
   rcases hx with hx | hx
   ·exact hx
   ·omega
  try (conv => whnf)
  repeat (first
   | (refine Need.mk ?_ ?_; (focus (first | omega | (first | exact fz_self _ _ (fun _ => rfl) | exact fz_pl rfl | (refine Fz.append ?_ ?_ <;> first | exact fz_self _ _ (fun _ => rfl) | exact fz_pl rfl) | (refine Fz.append (Fz.append ?_ ?_) ?_ <;> first | exact fz_self _ _ (fun _ => rfl) | exact fz_pl rfl)))); conv => whnf)
   | (refine Pick.mk ?_ ?_ ?_; rotate_left; (focus (first | (simp only [List.length_map, List.length_append, List.length_cons, List.length_nil, List.length_replicate, Nat.zero_add]; rfl) | with_reducible exact map_app _ _ _ | (refine SlOf.full ?_; first | (simp; done) | (simp; omega)))); conv => whnf))
  refine Out.mk false [0, 1, 2, 3, 4] [] ?_
  try (conv => whnf)
  repeat (refine Need.mk ?_ ?_; (focus ((first | exact flat_by _ | exact flat_in _ | exact flat_st _ | exact flat_ts _ | exact flat_bo _ | exact flat_cl rfl))); conv => whnf)
  exact ⟨by simp [opB], by simp [opB]⟩
theorem i_sum32 (l : List UInt8) (hl : l.length ≤ 2 ^ 40) : CallD Try.prog id_impl_sum32 [vY l] [] (vI .i64 (sumH 2166136261 l)) [] := by
 refine F_impl_sum32 ?_
 have h1 := sumH_lt (h := 2166136261) (by omega) l
 try (conv => whnf)
 refine Hand.mk [] ?_
 try (conv => whnf)
 refine CallW.d (i_sumOn 2166136261 l (by omega) hl) ?_
 try (conv => whnf)
 repeat (refine Pick.mk ?_ ?_ ?_; rotate_left; (focus ((refine wid ?_ ?_ <;> omega))); conv => whnf)
 refine Out.mk true [] [] ?_
 try (conv => whnf)
 exact ⟨rfl, rfl⟩
theorem i_append4' (l : List UInt8) (n : Nat) (v : Int) (hn : n = l.length) (hl : n ≤ 100000) (h0 : 0 ≤ v) (h1 : v < 2 ^ 62) : CallMD Try.prog id_impl_append4 [.one (.os (.v 0) 1 0 n), vI .i64 v] [.own 1 (l.map byD)] [0] (.one (.os (.v 0) 1 0 (n + 4))) [.own 1 ((l ++ four v).map byD)] := by
 refine F_impl_append4 ?_
 try (conv => whnf)
 repeat (first
  | (refine Need.mk ?_ ?_; (focus (first | omega | rfl)); conv => whnf)
  | (refine Pick.mk ?_ ?_ ?_; rotate_left; (focus (first | (simp only [List.length_map, List.length_append, List.length_cons, List.length_nil, List.length_replicate, Nat.zero_add]; rfl) | (simp only [chunks]; rfl) | exact shr8 _ | exact shr16 _ | exact shr24 _ | exact wbyte _ | (refine SlOf.full ?_; first | (simp; done) | (simp; omega)) | ((fail_if_success (show @Eq (Option _) _ _)); rfl))); conv => whnf))
 refine Out.mk false [0, 1, 2, 3, 4] [] ?_
 try (conv => whnf)
 repeat (refine Need.mk ?_ ?_; (focus ((refine flat_app ?_ ?_ <;> (first | exact flat_by _ | exact flat_in _ | exact flat_st _ | exact flat_ts _ | exact flat_bo _ | exact flat_cl rfl)))); conv => whnf)
 exact ⟨rfl, by simp [four]⟩
end Go.Proofs.Ytpdjehnlejjfmaa.D
/- Logs in plain: when one is in order, and what the program's book of it holds. -/
namespace Go.Proofs.Ytpdjehnlejjfmaa.D
open Go.RowKit
set_option maxRecDepth 100000
set_option linter.unusedVariables false
set_option linter.unusedSimpArgs false

theorem snoc_ind {α : Type} {p : List α → Prop} (h0 : p []) (hs : ∀ l x, p l → p (l ++ [x])) : ∀ l, p l := by
 have : ∀ n (l : List α), l.length = n → p l := by
  intro n
  induction n with
  | zero => intro l hl; rw [List.eq_nil_of_length_eq_zero hl]; exact h0
  | succ n ih =>
   intro l hl
   have hne : l ≠ [] := by rintro rfl; simp at hl
   rw [← List.dropLast_concat_getLast hne]
   exact hs _ _ (ih _ (by simp [hl]))
 exact fun l => this _ l rfl
def own (l : List OpV) (a : Int) : List OpV := l.filter fun o => decide (o.actor = a)
theorem own_snoc (l : List OpV) (o : OpV) (a : Int) : own (l ++ [o]) a = own l a ++ if o.actor = a then [o] else [] := by
 simp only [own, List.filter_append, List.filter_cons, List.filter_nil, decide_eq_true_eq]
theorem own_take {l : List OpV} {i : Nat} (h : i < l.length) (a : Int) : own (l.take (i + 1)) a = own (l.take i) a ++ if l[i].actor = a then [l[i]] else [] := by
 rw [List.take_succ_eq_append_getElem h, own_snoc]
theorem own_le (l : List OpV) (a : Int) : (own l a).length ≤ l.length := List.length_filter_le _ _
def thI (k : Int) : Int := if k = 3 then 2 else k
def thS (k : Int) : Int := if k = 1 then 1 else if k = 2 ∨ k = 3 then 2 else 3
theorem OpOk.kinds {o : OpV} (h : OpOk o) : 1 ≤ o.kind ∧ o.kind ≤ 4 := by
 rcases h.kind with ⟨k, _⟩ | ⟨k, _⟩ | ⟨k, _⟩ | ⟨k, _⟩ <;> omega
theorem thI_ne {k : Int} (h : 1 ≤ k ∧ k ≤ 4) : thI k ≠ 0 := by unfold thI; split <;> omega
theorem thS_ne {k : Int} (h : 1 ≤ k ∧ k ≤ 4) : thS k ≠ 0 := by unfold thS; split; omega; split <;> omega
theorem th_iff {a b : Int} (ha : 1 ≤ a ∧ a ≤ 4) (hb : 1 ≤ b ∧ b ≤ 4) : thI a = thI b ↔ thS a = thS b := by
 unfold thI thS
 split <;> split <;> split <;> (try split) <;> (try split) <;> (try split) <;> omega
def SameTh (th : Int → Int) (l : List OpV) : Prop := ∀ a ∈ l, ∀ b ∈ l, a.obj = b.obj → th a.kind = th b.kind
theorem SameTh.iff {l : List OpV} (hl : ∀ o ∈ l, OpOk o) : SameTh thI l ↔ SameTh thS l :=
 ⟨fun h a ha b hb e => (th_iff (hl a ha).kinds (hl b hb).kinds).1 (h a ha b hb e), fun h a ha b hb e => (th_iff (hl a ha).kinds (hl b hb).kinds).2 (h a ha b hb e)⟩
theorem SameTh.snoc {th : Int → Int} {l : List OpV} {o : OpV} (h : SameTh th l) (ho : ∀ a ∈ l, a.obj = o.obj → th a.kind = th o.kind) : SameTh th (l ++ [o]) := by
 intro a ha b hb e
 simp only [List.mem_append, List.mem_singleton] at ha hb
 rcases ha with ha | rfl <;> rcases hb with hb | rfl
 ·exact h a ha b hb e
 ·exact ho a ha e
 ·exact (ho b hb e.symm).symm
 ·rfl
theorem SameTh.of_snoc {th : Int → Int} {l : List OpV} {o : OpV} (h : SameTh th (l ++ [o])) : ∀ a ∈ l, a.obj = o.obj → th a.kind = th o.kind :=
 fun a ha e => h a (by simp [ha]) o (by simp) e
theorem SameTh.sub {th : Int → Int} {l m : List OpV} (h : SameTh th l) (hm : ∀ o ∈ m, o ∈ l) : SameTh th m := fun a ha b hb e => h a (hm a ha) b (hm b hb) e
def kdOf (th : Int → Int) (l : List OpV) : List Int := l.foldl (fun k o => k.set o.obj.toNat (th o.kind)) (List.replicate 101 0)
theorem kdOf_snoc (th : Int → Int) (l : List OpV) (o : OpV) : kdOf th (l ++ [o]) = (kdOf th l).set o.obj.toNat (th o.kind) := by simp [kdOf]
@[simp] theorem kdOf_length (th : Int → Int) (l : List OpV) : (kdOf th l).length = 101 := by
 induction l using snoc_ind with
 | h0 => simp [kdOf]
 | hs l o ih => rw [kdOf_snoc]; simpa using ih
theorem kdOf_val (th : Int → Int) {j : Nat} (hj : j < 101) : ∀ (l : List OpV), (∀ o ∈ l, OpOk o) → (∀ a ∈ l, a.obj ≠ j) ∧ (kdOf th l).getD j 0 = 0 ∨ ∃ a ∈ l, a.obj = j ∧ (kdOf th l).getD j 0 = th a.kind := by
 intro l
 induction l using snoc_ind with
 | h0 => intro _; left; exact ⟨by simp, by simp [kdOf, List.getD, hj, -List.reduceReplicate]⟩
 | hs l o ih =>
  intro hl
  have ho := (hl o (by simp)).obj
  rw [kdOf_snoc]
  by_cases e : o.obj = j
  ·right
   refine ⟨o, by simp, e, ?_⟩
   have : o.obj.toNat = j := by omega
   rw [this]; simp [List.getD, hj]
  ·have hne : o.obj.toNat ≠ j := by omega
   have hg : ((kdOf th l).set o.obj.toNat (th o.kind)).getD j 0 = (kdOf th l).getD j 0 := by simp [List.getD, List.getElem?_set, hne]
   rw [hg]
   rcases ih fun o h => hl o (by simp [h]) with ⟨h1, h2⟩ | ⟨a, h1, h2, h3⟩
   ·left
    refine ⟨fun a ha => ?_, h2⟩
    simp only [List.mem_append, List.mem_singleton] at ha
    rcases ha with ha | rfl
    ·exact h1 a ha
    ·exact e
   ·exact .inr ⟨a, by simp [h1], h2, h3⟩
theorem kd_iff {th : Int → Int} (hth : ∀ k, 1 ≤ k ∧ k ≤ 4 → th k ≠ 0) {l : List OpV} {o : OpV} (hl : ∀ o ∈ l, OpOk o) (hs : SameTh th l) (ho : OpOk o) :
  ((kdOf th l).getD o.obj.toNat 0 = 0 ∨ (kdOf th l).getD o.obj.toNat 0 = th o.kind) ↔ ∀ a ∈ l, a.obj = o.obj → th a.kind = th o.kind := by
 have hob := ho.obj
 have hj : o.obj.toNat < 101 := by omega
 have hc : ((o.obj.toNat : Nat) : Int) = o.obj := by omega
 rcases kdOf_val th hj l hl with ⟨h1, h2⟩ | ⟨a, h1, h2, h3⟩
 ·rw [h2]
  refine ⟨fun _ a ha e => absurd (e.trans hc.symm) (h1 a ha), fun _ => .inl rfl⟩
 ·rw [h3]
  constructor
  ·rintro (h | h) b hb e
   ·exact absurd h (hth _ (hl a h1).kinds)
   ·rw [← h]; exact hs b hb a h1 (by rw [h2, hc]; exact e)
  ·intro h; exact .inr (h a h1 (by omega))
def Good1 (l : List OpV) (i : Nat) : Prop := ∀ j (h : j < l.length), j < i → OpOk l[j] ∧ (0 < j → (l[j - 1]'(by omega)).actor ≤ l[j].actor) ∧ l[j].seq = (own (l.take j) l[j].actor).length + 1
theorem Good1.zero (l : List OpV) : Good1 l 0 := fun j _ h => by omega
theorem Good1.step {l : List OpV} {i : Nat} (hi : i < l.length) (h : Good1 l i) (h1 : OpOk l[i]) (h2 : 0 < i → (l[i - 1]'(by omega)).actor ≤ l[i].actor) (h3 : l[i].seq = (own (l.take i) l[i].actor).length + 1) : Good1 l (i + 1) := fun j hj hlt => by
 rcases Nat.lt_or_ge j i with g | g
 ·exact h j hj g
 ·obtain rfl : j = i := by omega
  exact ⟨h1, h2, h3⟩
theorem Good1.at {l : List OpV} (h : Good1 l l.length) {i : Nat} (hi : i < l.length) : OpOk l[i] ∧ (0 < i → (l[i - 1]'(by omega)).actor ≤ l[i].actor) ∧ l[i].seq = (own (l.take i) l[i].actor).length + 1 := h i hi hi
theorem Good1.ok {l : List OpV} {i : Nat} (h : Good1 l i) : ∀ o ∈ l.take i, OpOk o := fun o ho => by
 obtain ⟨j, hj, rfl⟩ := List.mem_iff_getElem.1 ho
 simp at hj
 rw [List.getElem_take]
 exact (h j (by omega) (by omega)).1
theorem Good1.all {l : List OpV} (h : Good1 l l.length) : ∀ o ∈ l, OpOk o := by have := h.ok; rwa [List.take_length] at this
theorem Good1.le {l : List OpV} {i j : Nat} (h : Good1 l i) (hj : j ≤ i) : Good1 l j := fun k hk hlt => h k hk (by omega)
def CauseAt (l : List OpV) (o : OpV) (a : Nat) : Prop := o.deps.getD a 0 ≤ (own l a).length ∧ (0 < o.deps.getD a 0 → ∀ p, (own l a)[(o.deps.getD a 0 - 1).toNat]? = some p → stLt p.time p.actor o.time o.actor)
def Cause (l : List OpV) (o : OpV) : Prop := ∀ a : Nat, a < 16 → CauseAt l o a
noncomputable instance (l : List OpV) (o : OpV) : Decidable (Cause l o) := Classical.propDecidable _
structure LogOk (l : List OpV) : Prop where
 len : l.length ≤ 1024
 good : Good1 l l.length
 same : SameTh thI l
 cause : ∀ o ∈ l, Cause l o
noncomputable instance (l : List OpV) : Decidable (LogOk l) := Classical.propDecidable _
structure BookV where
 of : List (List OpV)
 kd : List Int
 size : Int
 tT : Int
 tA : Int
def BookV.zero : BookV := ⟨List.replicate 16 [], List.replicate 101 0, 0, 0, 0⟩
def BookV.put (b : BookV) (o : OpV) : BookV :=
 ⟨b.of.set o.actor.toNat (b.of.getD o.actor.toNat [] ++ [o]), b.kd.set o.obj.toNat (thI o.kind), b.size + 1, if stLt b.tT b.tA o.time o.actor then o.time else b.tT, if stLt b.tT b.tA o.time o.actor then o.actor else b.tA⟩
def bookOf (l : List OpV) : BookV := l.foldl BookV.put .zero
theorem bookOf_snoc (l : List OpV) (o : OpV) : bookOf (l ++ [o]) = (bookOf l).put o := by simp [bookOf]
theorem bookOf_take {l : List OpV} {i : Nat} (h : i < l.length) : bookOf (l.take (i + 1)) = (bookOf (l.take i)).put l[i] := by rw [List.take_succ_eq_append_getElem h, bookOf_snoc]
@[simp] theorem book_of_length (l : List OpV) : (bookOf l).of.length = 16 := by
 induction l using snoc_ind with
 | h0 => rfl
 | hs l o ih => rw [bookOf_snoc]; simpa [BookV.put] using ih
theorem book_kd (l : List OpV) : (bookOf l).kd = kdOf thI l := by
 induction l using snoc_ind with
 | h0 => rfl
 | hs l o ih => rw [bookOf_snoc, kdOf_snoc, ← ih]; rfl
theorem book_size (l : List OpV) : (bookOf l).size = l.length := by
 induction l using snoc_ind with
 | h0 => rfl
 | hs l o ih => rw [bookOf_snoc]; simp only [BookV.put, ih]; simp
theorem book_of {a : Nat} (ha : a < 16) : ∀ (l : List OpV), (∀ o ∈ l, OpOk o) → (bookOf l).of.getD a [] = own l a := by
 intro l
 induction l using snoc_ind with
 | h0 => intro _; simp [bookOf, BookV.zero, own, List.getD, ha, -List.reduceReplicate]
 | hs l o ih =>
  intro hl
  have ho := (hl o (by simp)).st.2
  have ih := ih fun o h => hl o (by simp [h])
  rw [bookOf_snoc, own_snoc]
  simp only [BookV.put]
  by_cases e : o.actor = a
  ·have : o.actor.toNat = a := by omega
   rw [if_pos e, this, ih]
   simp [List.getD, ha]
  ·have : o.actor.toNat ≠ a := by omega
   rw [if_neg e, List.append_nil, ← ih]
   simp [List.getD, List.getElem?_set, this]

theorem split_own : ∀ (l : List OpV) (a : Int), l.Pairwise (fun x y => x.actor ≤ y.actor) → ∃ p q, l = p ++ own l a ++ q ∧ (∀ o ∈ p, o.actor < a) ∧ (∀ o ∈ q, a < o.actor)
 | [], a, _ => ⟨[], [], by simp [own], by simp, by simp⟩
 |o :: l, a, h => by
  rw [List.pairwise_cons] at h
  obtain ⟨p, q, h1, h2, h3⟩ := split_own l a h.2
  by_cases e : o.actor = a
  ·have hp : p = [] := by
    cases p with
    | nil => rfl
    | cons x p =>
     have := h2 x (by simp)
     have := h.1 x (by rw [h1]; simp)
     omega
   subst hp
   refine ⟨[], q, ?_, by simp, h3⟩
   have : own (o :: l) a = o :: own l a := by simp [own, List.filter_cons, e]
   rw [this]; simpa using h1
  ·have e2 : own (o :: l) a = own l a := by simp [own, List.filter_cons, e]
   rcases Int.lt_or_gt_of_ne e with g | g
   ·exact ⟨o :: p, q, by rw [e2]; simpa using h1, fun x hx => (List.mem_cons.1 hx).elim (fun e => e ▸ g) (h2 x), h3⟩
   ·refine ⟨[], o :: l, ?_, by simp, fun x hx => ?_⟩
    ·have : own l a = [] := by
      rw [own, List.filter_eq_nil_iff]
      intro x hx
      have := h.1 x hx
      simp; omega
     rw [e2, this]; rfl
    ·rcases List.mem_cons.1 hx with rfl | hx
     ·exact g
     ·have := h.1 x hx; omega
theorem Good1.sorted {l : List OpV} (h : Good1 l l.length) : l.Pairwise (fun x y => x.actor ≤ y.actor) := by
 rw [List.pairwise_iff_getElem]
 intro i j hi hj hij
 have : ∀ n, i + n < l.length → ∀ (h1 : i < l.length) (h2 : i + n < l.length), l[i].actor ≤ l[i + n].actor := by
  intro n
  induction n with
  | zero => intro _ _ _; exact Int.le_refl _
  | succ n ih =>
   intro hn h1 h2
   have g1 := ih (by omega) h1 (by omega)
   have g2 := (h.at h2).2.1 (by omega)
   have e : i + (n + 1) - 1 = i + n := by omega
   simp only [e] at g2
   omega
 have g := this (j - i) (by omega) hi (by omega)
 have e : i + (j - i) = j := by omega
 simp only [e] at g
 exact g
def cnts (l : List OpV) : List Int := (List.range 16).map fun a : Nat => ((own l a).length : Int)
@[simp] theorem cnts_length (l : List OpV) : (cnts l).length = 16 := by simp [cnts]
theorem cnts_get (l : List OpV) {a : Nat} (h : a < 16) : (cnts l)[a]'(by simpa using h) = (own l a).length := by simp [cnts]
theorem cnts_set {l : List OpV} {i : Nat} (h : i < l.length) (ha : actOk l[i].actor) : (cnts (l.take i)).set l[i].actor.toNat ((own (l.take i) l[i].actor).length + 1) = cnts (l.take (i + 1)) := by
 apply List.ext_getElem
 ·simp
 ·intro n h1 h2
  simp only [List.length_set, cnts_length] at h1
  rw [List.getElem_set, cnts_get _ h1, cnts_get _ h1, own_take h]
  split
  ·rename_i e
   have : l[i].actor = n := by omega
   rw [if_pos this, this]; simp
  ·rename_i e
   rw [if_neg (by omega)]; simp
end Go.Proofs.Ytpdjehnlejjfmaa.D
/- What the laws do with bytes: copied, compared, marked. -/
namespace Go.Proofs.Ytpdjehnlejjfmaa.D
open Go.RowKit
set_option maxRecDepth 100000
set_option linter.unusedVariables false
set_option linter.unusedSimpArgs false

theorem take_eq_step {α : Type} {a b : List α} {i : Nat} (ha : i < a.length) (hb : i < b.length) (h : a.take i = b.take i) (h2 : a[i] = b[i]) : a.take (i + 1) = b.take (i + 1) := by
 rw [List.take_succ_eq_append_getElem ha, List.take_succ_eq_append_getElem hb, h, h2]
def marks (k : Int) (n : Nat) : List UInt8 := (List.range n).map fun (i : Nat) => u8 (k + i)
@[simp] theorem marks_length (k : Int) (n : Nat) : (marks k n).length = n := by simp [marks]
end Go.Proofs.Ytpdjehnlejjfmaa.D
/- What the laws do with numbers in a row, and with operations: copied, compared, marked. -/
namespace Go.Proofs.Ytpdjehnlejjfmaa.D
open Go.RowKit
set_option maxRecDepth 100000
set_option maxHeartbeats 4000000
set_option linter.unusedVariables false
set_option linter.unusedSimpArgs false

theorem l_toIntS (l : List Int) (hl : l.length ≤ 2 ^ 39) : CallD Try.prog id_laws_toIntS [vN l] [] (.one (.os (.v 0) 1 0 l.length)) [.own 1 (l.map inD)] := by
 refine F_laws_toIntS ?_
 try (conv => whnf)
 repeat (first
  | (refine Need.mk ?_ ?_; (focus (omega)); conv => whnf)
  | (refine Pick.mk ?_ ?_ ?_; rotate_left; (focus (first | exact List.length_map _ | exact natlit _ | exact rep_in _)); conv => whnf))
 refine LoopE.mk (fun i : Nat => mk [(0, vN l), (3, .one (.os (.v 8224) 1 0 l.length)), (4, vI .i64 i)] [(8224, .own 1 ((over l (List.replicate l.length 0) i).map inD))]) (fun i => i ≤ l.length) (fun i => l.length - i) 0 (by omega) (LeX.of ?_) ?_
 ·try (conv => whnf)
  repeat (refine Need.mk ?_ ?_; (focus (first | omega | (simp; done) | rfl)); conv => whnf)
  trivial
 ·intro i hi
  try (conv => whnf)
  repeat' (first
   | (refine Need.mk ?_ ?_; (focus (omega)); conv => whnf)
   | (refine Pick.mk ?_ ?_ ?_; rotate_left; (focus (first | exact List.length_map _ | (refine pick_nat _ _ _ ?_; omega))); conv => whnf)
   | (refine SeqJ.thru ?_; conv => whnf)
   | (refine br_dec (fun _ => ?_) (fun _ => ?_) <;> first | (exfalso; omega) | contradiction | conv => whnf)
   | (refine br_not ?_; conv => whnf)
   | (refine br_bne (fun _ => ?_) (fun _ => ?_) <;> first | (exfalso; omega) | contradiction | conv => whnf)
   | (refine br_beq (fun _ => ?_) (fun _ => ?_) <;> first | (exfalso; omega) | contradiction | conv => whnf))
  ·refine Pick.mk (inD 0) (by rw [addN_eq, List.getElem?_map, show 0 + (i : Int).toNat = i by omega, over_get (by simp) (by simp; omega)]; simp) ?_
   try (conv => whnf)
   repeat (first
    | (refine Need.mk ?_ ?_; (focus ((simp only [List.length_map, List.length_append, List.length_cons, List.length_nil, List.length_replicate]; omega))); conv => whnf)
    | (refine Pick.mk ?_ ?_ ?_; rotate_left; (focus (first | with_reducible exact set_inN _ _ _ _ | (refine wid ?_ ?_ <;> omega))); conv => whnf))
   refine Pick.mk (i + 1) (by constructor <;> first | omega | (simp only []; omega)) (LeX.of ?_)
   try (conv => whnf)
   repeat (refine Need.mk ?_ ?_; (focus (first | omega | (simp; done))); conv => whnf)
   refine Need.mk (by rw [over_set (by simp) (by simp; omega)]) ?_
   try (conv => whnf)
   trivial
  ·refine Out.mk false [0, 1, 2, 3, 4] [] ?_
   try (conv => whnf)
   repeat (refine Need.mk ?_ ?_; (focus ((first | exact flat_by _ | exact flat_in _ | exact flat_st _ | exact flat_ts _ | exact flat_bo _ | exact flat_cl rfl))); conv => whnf)
   rw [over_end (by simp) (by simp; omega)]
   exact ⟨rfl, rfl⟩
theorem l_toVector (l : List Int) (hl : l.length ≤ 2 ^ 39) : CallD Try.prog id_laws_toVector [vV l] [] (.agg [.os (.v 0) 1 0 l.length]) [.own 1 (l.map inD)] := by
 refine F_laws_toVector ?_
 try (conv => whnf)
 refine Hand.mk [] ?_
 try (conv => whnf)
 refine CallW.d (l_toIntS l hl) ?_
 try (conv => whnf)
 refine Out.mk false [0, 1, 2, 3, 4] [] ?_
 try (conv => whnf)
 repeat (refine Need.mk ?_ ?_; (focus ((first | exact flat_by _ | exact flat_in _ | exact flat_st _ | exact flat_ts _ | exact flat_bo _ | exact flat_cl rfl))); conv => whnf)
 exact ⟨rfl, rfl⟩
theorem l_toStamp (t a : Int) : CallD Try.prog id_laws_toStamp [vSt t a] [] (vSt t a) [] := by
 refine F_laws_toStamp ?_
 try (conv => whnf)
 refine Out.mk true [] [] ?_
 try (conv => whnf)
 exact ⟨rfl, rfl⟩
abbrev vOw (o : OpV) : SV := .agg [cI o.actor, cI o.seq, cI o.time, .os (.v 0) 1 0 o.deps.length, cI o.kind, cI o.obj, cI o.n, cI o.undo, cI o.atT, cI o.atA, cS (bs o.key), cS (bs o.text)]
theorem l_toOp (o : OpV) (hl : o.deps.length ≤ 2 ^ 39) : CallD Try.prog id_laws_toOp [vO o] [] (vOw o) [.own 1 (o.deps.map inD)] := by
 refine F_laws_toOp ?_
 try (conv => whnf)
 refine Hand.mk [] ?_
 try (conv => whnf)
 refine CallW.d (l_toVector o.deps hl) ?_
 try (conv => whnf)
 refine Hand.mk [] ?_
 try (conv => whnf)
 refine CallW.d (l_toStamp o.atT o.atA) ?_
 try (conv => whnf)
 refine Out.mk false [0, 1, 2, 3, 4] [] ?_
 try (conv => whnf)
 repeat (refine Need.mk ?_ ?_; (focus ((first | exact flat_by _ | exact flat_in _ | exact flat_st _ | exact flat_ts _ | exact flat_bo _ | exact flat_cl rfl))); conv => whnf)
 exact ⟨rfl, rfl⟩
theorem vI_ext {a b : Int} (h : a = b) : vI .i64 a = vI .i64 b := by rw [h]
def szL (left : Int) (n : Nat) : Int := if left < n then -1 else left - n
theorem l_szIntS (l : List Int) (left : Int) (hl : l.length ≤ 9223372036854775807) (h0 : 0 ≤ left) (h1 : left ≤ 2 ^ 40) : CallD Try.prog id_laws_szIntS [vN l, vI .i64 left] [] (vI .i64 (szL left l.length)) [] := by
 refine F_laws_szIntS ?_
 try (conv => whnf)
 repeat' (first
  | (refine Pick.mk ?_ ?_ ?_; rotate_left; (focus (first | exact List.length_map _ | (refine wid ?_ ?_ <;> omega))); conv => whnf)
  | (refine SeqJ.thru ?_; conv => whnf)
  | (refine br_dec (fun _ => ?_) (fun _ => ?_) <;> first | (exfalso; omega) | contradiction | conv => whnf)
  | (refine br_not ?_; conv => whnf)
  | (refine br_bne (fun _ => ?_) (fun _ => ?_) <;> first | (exfalso; omega) | contradiction | conv => whnf)
  | (refine br_beq (fun _ => ?_) (fun _ => ?_) <;> first | (exfalso; omega) | contradiction | conv => whnf))
 all_goals
  refine Out.mk true [] [] ?_
  try (conv => whnf)
 all_goals first
  | exact ⟨by rw [szL, if_pos (by omega)], rfl⟩
  | exact ⟨by rw [szL, if_neg (by omega)], rfl⟩
theorem l_szVector (l : List Int) (left : Int) (hl : l.length ≤ 9223372036854775807) (h0 : 0 ≤ left) (h1 : left ≤ 2 ^ 40) : CallD Try.prog id_laws_szVector [vV l, vI .i64 left] [] (vI .i64 (szL left l.length)) [] := by
 refine F_laws_szVector ?_
 try (conv => whnf)
 refine Hand.mk [] ?_
 try (conv => whnf)
 refine CallW.d (l_szIntS l left hl h0 h1) ?_
 try (conv => whnf)
 repeat (refine SeqJ.thru ?_; conv => whnf)
 by_cases h : left < l.length
 ·rw [show szL left l.length = -1 from if_pos h]
  try (conv => whnf)
  repeat' (first
   | (refine br_dec (fun _ => ?_) (fun _ => ?_) <;> first | (exfalso; omega) | contradiction | conv => whnf)
   | (refine br_not ?_; conv => whnf)
   | (refine br_bne (fun _ => ?_) (fun _ => ?_) <;> first | (exfalso; omega) | contradiction | conv => whnf)
   | (refine br_beq (fun _ => ?_) (fun _ => ?_) <;> first | (exfalso; omega) | contradiction | conv => whnf))
  refine Out.mk true [] [] ?_
  try (conv => whnf)
  exact ⟨rfl, rfl⟩
 ·rw [show szL left l.length = left - l.length from if_neg h]
  try (conv => whnf)
  repeat' (first
   | (refine br_dec (fun _ => ?_) (fun _ => ?_) <;> first | (exfalso; omega) | contradiction | conv => whnf)
   | (refine br_not ?_; conv => whnf)
   | (refine br_bne (fun _ => ?_) (fun _ => ?_) <;> first | (exfalso; omega) | contradiction | conv => whnf)
   | (refine br_beq (fun _ => ?_) (fun _ => ?_) <;> first | (exfalso; omega) | contradiction | conv => whnf))
  refine Out.mk true [] [] ?_
  try (conv => whnf)
  exact ⟨rfl, rfl⟩
theorem l_szOp (o : OpV) (left : Int) (hl : o.deps.length ≤ 9223372036854775807) (hk : o.key.length ≤ 9223372036854775807) (ht : o.text.length ≤ 9223372036854775807) (h0 : 0 ≤ left) (h1 : left ≤ 2 ^ 40) :
  CallD Try.prog id_laws_szOp [vO o, vI .i64 left] [] (vI .i64 (szL left (o.deps.length + o.key.length + o.text.length))) [] := by
 refine F_laws_szOp ?_
 try (conv => whnf)
 refine Hand.mk [] ?_
 try (conv => whnf)
 refine CallW.d (l_szVector o.deps left hl h0 h1) ?_
 try (conv => whnf)
 repeat (refine SeqJ.thru ?_; conv => whnf)
 by_cases h : left < o.deps.length
 ·rw [show szL left o.deps.length = -1 from if_pos h]
  try (conv => whnf)
  repeat' (first
   | (refine br_dec (fun _ => ?_) (fun _ => ?_) <;> first | (exfalso; omega) | contradiction | conv => whnf)
   | (refine br_not ?_; conv => whnf)
   | (refine br_bne (fun _ => ?_) (fun _ => ?_) <;> first | (exfalso; omega) | contradiction | conv => whnf)
   | (refine br_beq (fun _ => ?_) (fun _ => ?_) <;> first | (exfalso; omega) | contradiction | conv => whnf))
  refine Out.mk true [] [] ?_
  try (conv => whnf)
  exact ⟨by rw [szL, if_pos (by omega)], rfl⟩
 ·rw [show szL left o.deps.length = left - o.deps.length from if_neg h]
  try (conv => whnf)
  repeat' (first
   | (refine Pick.mk ?_ ?_ ?_; rotate_left; (focus (first | exact size_bs _ | (refine wid ?_ ?_ <;> omega))); conv => whnf)
   | (refine SeqJ.thru ?_; conv => whnf)
   | (refine br_dec (fun _ => ?_) (fun _ => ?_) <;> first | (exfalso; omega) | contradiction | conv => whnf)
   | (refine br_not ?_; conv => whnf)
   | (refine br_bne (fun _ => ?_) (fun _ => ?_) <;> first | (exfalso; omega) | contradiction | conv => whnf)
   | (refine br_beq (fun _ => ?_) (fun _ => ?_) <;> first | (exfalso; omega) | contradiction | conv => whnf))
  all_goals
   refine Out.mk true [] [] ?_
   try (conv => whnf)
  all_goals first
   | exact ⟨by rw [szL, if_pos (by omega)], rfl⟩
   | exact ⟨by rw [szL, if_neg (by omega)]; exact vI_ext (by push_cast; omega), rfl⟩
theorem l_eqIntS (a b : List Int) (ha : a.length ≤ 2 ^ 39) (hb : b.length ≤ 2 ^ 39) : CallD Try.prog id_laws_eqIntS [vN a, vN b] [] (vB (decide (a = b))) [] := by
 refine F_laws_eqIntS ?_
 try (conv => whnf)
 repeat' (first
  | (refine Pick.mk ?_ ?_ ?_; rotate_left; (focus (exact List.length_map _)); conv => whnf)
  | (refine SeqJ.thru ?_; conv => whnf)
  | (refine br_dec (fun _ => ?_) (fun _ => ?_) <;> first | (exfalso; omega) | contradiction | conv => whnf)
  | (refine br_not ?_; conv => whnf)
  | (refine br_bne (fun _ => ?_) (fun _ => ?_) <;> first | (exfalso; omega) | contradiction | conv => whnf)
  | (refine br_beq (fun _ => ?_) (fun _ => ?_) <;> first | (exfalso; omega) | contradiction | conv => whnf))
 ·refine LoopE.mk (fun i : Nat => mk [(0, vN a), (1, vN b), (5, vI .i64 i)] []) (fun i => i ≤ a.length ∧ a.take i = b.take i) (fun i => a.length - i) 0 (by simp) (LeX.of ?_) ?_
  ·try (conv => whnf)
   repeat (refine Need.mk ?_ ?_; (focus (first | omega | (simp; done))); conv => whnf)
   trivial
  ·rintro i ⟨hi, he⟩
   try (conv => whnf)
   repeat' (first
    | (refine Pick.mk ?_ ?_ ?_; rotate_left; (focus (first | exact List.length_map _ | (refine wid ?_ ?_ <;> omega) | (refine pick_nat _ _ _ ?_; omega))); conv => whnf)
    | (refine SeqJ.thru ?_; conv => whnf)
    | (refine br_dec (fun _ => ?_) (fun _ => ?_) <;> first | (exfalso; omega) | contradiction | conv => whnf)
    | (refine br_not ?_; conv => whnf)
    | (refine br_bne (fun _ => ?_) (fun _ => ?_) <;> first | (exfalso; omega) | contradiction | conv => whnf)
    | (refine br_beq (fun _ => ?_) (fun _ => ?_) <;> first | (exfalso; omega) | contradiction | conv => whnf))
   ·rename_i g1 g2
    refine Pick.mk (i + 1) ⟨⟨by omega, take_eq_step (by omega) (by omega) he (by omega)⟩, by omega⟩ (LeX.of ?_)
    try (conv => whnf)
    repeat (refine Need.mk ?_ ?_; (focus (first | omega | (simp; done))); conv => whnf)
    trivial
   ·rename_i g1 g2
    refine Out.mk true [] [] ?_
    try (conv => whnf)
    have : a ≠ b := by rintro rfl; exact g2 rfl
    simp [this]; exact ⟨trivial⟩
   ·refine Out.mk true [] [] ?_
    try (conv => whnf)
    have : a = b := by rw [List.take_of_length_le (by omega), List.take_of_length_le (by omega)] at he; exact he
    simp [this]; exact ⟨trivial⟩
 ·refine Out.mk true [] [] ?_
  try (conv => whnf)
  have : a ≠ b := by rintro rfl; omega
  simp [this]; exact ⟨trivial⟩
def markIs (k : Int) (n : Nat) : List Int := (List.range n).map fun (i : Nat) => k + i
@[simp] theorem markIs_length (k : Int) (n : Nat) : (markIs k n).length = n := by simp [markIs]
theorem l_eqVector (a : List Int) (ha : a.length ≤ 2 ^ 39) : CallD Try.prog id_laws_eqVector [vV a, vV a] [] (vB true) [] := by
 refine F_laws_eqVector ?_
 try (conv => whnf)
 repeat (refine SeqJ.thru ?_; conv => whnf)
 refine Hand.mk [] ?_
 try (conv => whnf)
 refine CallW.d (l_eqIntS a a ha ha) ?_
 try (conv => whnf)
 try (conv => whnf)
 repeat' (first
  | (refine br_dec (fun _ => ?_) (fun _ => ?_) <;> first | (exfalso; omega) | contradiction | conv => whnf)
  | (refine br_not ?_; conv => whnf)
  | (refine br_bne (fun _ => ?_) (fun _ => ?_) <;> first | (exfalso; omega) | contradiction | conv => whnf)
  | (refine br_beq (fun _ => ?_) (fun _ => ?_) <;> first | (exfalso; omega) | contradiction | conv => whnf))
 refine Out.mk true [] [] ?_
 try (conv => whnf)
 exact ⟨rfl, rfl⟩
theorem l_eqStamp (t a : Int) : CallD Try.prog id_laws_eqStamp [vSt t a, vSt t a] [] (vB true) [] := by
 refine F_laws_eqStamp ?_
 try (conv => whnf)
 repeat' (first
  | (refine SeqJ.thru ?_; conv => whnf)
  | (refine br_dec (fun _ => ?_) (fun _ => ?_) <;> first | (exfalso; omega) | contradiction | conv => whnf)
  | (refine br_not ?_; conv => whnf)
  | (refine br_bne (fun _ => ?_) (fun _ => ?_) <;> first | (exfalso; omega) | contradiction | conv => whnf)
  | (refine br_beq (fun _ => ?_) (fun _ => ?_) <;> first | (exfalso; omega) | contradiction | conv => whnf))
 refine Out.mk true [] [] ?_
 try (conv => whnf)
 exact ⟨rfl, rfl⟩
theorem l_eqOp (o : OpV) (ha : o.deps.length ≤ 2 ^ 39) (hk : o.key.length ≤ 2 ^ 39) (ht : o.text.length ≤ 2 ^ 39) : CallD Try.prog id_laws_eqOp [vO o, vO o] [] (vB true) [] := by
 refine F_laws_eqOp ?_
 try (conv => whnf)
 repeat' (first
  | (refine SeqJ.thru ?_; conv => whnf)
  | (refine br_dec (fun _ => ?_) (fun _ => ?_) <;> first | (exfalso; omega) | contradiction | conv => whnf)
  | (refine br_not ?_; conv => whnf)
  | (refine br_bne (fun _ => ?_) (fun _ => ?_) <;> first | (exfalso; omega) | contradiction | conv => whnf)
  | (refine br_beq (fun _ => ?_) (fun _ => ?_) <;> first | (exfalso; omega) | contradiction | conv => whnf))
 refine Hand.mk [] ?_
 try (conv => whnf)
 refine CallW.d (l_eqVector o.deps ha) ?_
 try (conv => whnf)
 repeat (refine SeqJ.thru ?_; conv => whnf)
 try (conv => whnf)
 repeat' (first
  | (refine SeqJ.thru ?_; conv => whnf)
  | (refine br_dec (fun _ => ?_) (fun _ => ?_) <;> first | (exfalso; omega) | contradiction | conv => whnf)
  | (refine br_not ?_; conv => whnf)
  | (refine br_bne (fun _ => ?_) (fun _ => ?_) <;> first | (exfalso; omega) | contradiction | conv => whnf)
  | (refine br_beq (fun _ => ?_) (fun _ => ?_) <;> first | (exfalso; omega) | contradiction | conv => whnf))
 refine Hand.mk [] ?_
 try (conv => whnf)
 refine CallW.d (l_eqStamp o.atT o.atA) ?_
 try (conv => whnf)
 repeat (first
  | (refine Pick.mk ?_ ?_ ?_; rotate_left; (focus (exact bs_beq _ _)); conv => whnf)
  | (refine SeqJ.thru ?_; conv => whnf))
 try (conv => whnf)
 repeat' (first
  | (refine Pick.mk ?_ ?_ ?_; rotate_left; (focus (exact bs_beq _ _)); conv => whnf)
  | (refine SeqJ.thru ?_; conv => whnf)
  | (refine br_dec (fun _ => ?_) (fun _ => ?_) <;> first | (exfalso; omega) | contradiction | conv => whnf)
  | (refine br_not ?_; conv => whnf)
  | (refine br_bne (fun _ => ?_) (fun _ => ?_) <;> first | (exfalso; omega) | contradiction | conv => whnf)
  | (refine br_beq (fun _ => ?_) (fun _ => ?_) <;> first | (exfalso; omega) | contradiction | conv => whnf))
 refine Out.mk true [] [] ?_
 try (conv => whnf)
 exact ⟨rfl, rfl⟩
end Go.Proofs.Ytpdjehnlejjfmaa.D
/- What the laws do with logs: copied, counted, compared. -/
namespace Go.Proofs.Ytpdjehnlejjfmaa.D
open Go.RowKit
set_option maxRecDepth 100000
set_option maxHeartbeats 4000000
set_option linter.unusedVariables false
set_option linter.unusedSimpArgs false

abbrev vL (l : List OpV) : SV := .one (.dv (.sl (l.map oD)))
abbrev dJ (n : Int) : DV := .sc (.int .i64 n)
def oO (o : OpV) : List DV := [dJ o.actor, dJ o.seq, dJ o.time, .ow 1 0 o.deps.length (o.deps.map inD), dJ o.kind, dJ o.obj, dJ o.n, dJ o.undo, dJ o.atT, dJ o.atA, .sc (.string (bs o.key)), .sc (.string (bs o.text))]
abbrev oZ : List DV := [dJ 0, dJ 0, dJ 0, .sl [], dJ 0, dJ 0, dJ 0, dJ 0, dJ 0, dJ 0, .sc (.string (bs [])), .sc (.string (bs []))]
theorem fz_op (o : OpV) : (oD o).map some = (oO o).map fzD := by
 simp only [oO, oD, fzD, List.map_cons, List.map_nil, List.drop_zero]
 rw [List.take_of_length_le (by simp)]
theorem fz_ops (l : List OpV) : Fz (l.map oO) (l.map oD) := Fz.map _ _ _ fz_op
theorem sl_ops (l : List OpV) {n : Nat} (h : n = l.length) : SlF (l.map oO) 0 n (l.map oD) := SlF.full (by simpa using h) (fz_ops l)
theorem flat_oO (l : List OpV) : flatEs (l.map oO) := fun e he d hd => by
 obtain ⟨o, _, rfl⟩ := List.mem_map.1 he
 simp only [oO, List.mem_cons, List.not_mem_nil, or_false] at hd
 rcases hd with rfl | rfl | rfl | rfl | rfl | rfl | rfl | rfl | rfl | rfl | rfl | rfl <;> first | rfl | simp [flatD, List.all_map]
theorem l_toOpS (l : List OpV) (hl : l.length ≤ 2 ^ 30) (hd : ∀ o ∈ l, o.deps.length ≤ 2 ^ 39) : CallD Try.prog id_laws_toOpS [vL l] [] (.one (.os (.v 0) 12 0 l.length)) [.own 12 (l.map oO)] := by
 refine F_laws_toOpS ?_
 try (conv => whnf)
 repeat (first
  | (refine Need.mk ?_ ?_; (focus (omega)); conv => whnf)
  | (refine Pick.mk ?_ ?_ ?_; rotate_left; (focus (first | exact List.length_map _ | exact natlit _ | ((fail_if_success (show @Eq (Option _) _ _)); rfl))); conv => whnf))
 refine LoopE.mk (fun i : Nat => mk [(0, vL l), (3, .one (.os (.v 8224) 12 0 l.length)), (4, vI .i64 i)] [(8224, .own 12 (over (l.map oO) (List.replicate l.length oZ) i))]) (fun i => i ≤ l.length) (fun i => l.length - i) 0 (by omega) (LeX.of ?_) ?_
 ·try (conv => whnf)
  repeat (refine Need.mk ?_ ?_; (focus (first | omega | (simp; done) | rfl)); conv => whnf)
  trivial
 ·intro i hi
  try (conv => whnf)
  repeat' (first
   | (refine Pick.mk ?_ ?_ ?_; rotate_left; (focus (first | exact List.length_map _ | (refine pick_nat _ _ _ ?_; omega))); conv => whnf)
   | (refine SeqJ.thru ?_; conv => whnf)
   | (refine br_dec (fun _ => ?_) (fun _ => ?_) <;> first | (exfalso; omega) | contradiction | conv => whnf)
   | (refine br_not ?_; conv => whnf)
   | (refine br_bne (fun _ => ?_) (fun _ => ?_) <;> first | (exfalso; omega) | contradiction | conv => whnf)
   | (refine br_beq (fun _ => ?_) (fun _ => ?_) <;> first | (exfalso; omega) | contradiction | conv => whnf))
  ·refine Hand.mk [] ?_
   try (conv => whnf)
   refine CallW.d (l_toOp (l[i]'(by omega)) (hd _ (List.getElem_mem _))) ?_
   try (conv => whnf)
   repeat (first
    | (refine Need.mk ?_ ?_; (focus (first | omega | (simp; done) | (first | exact fz_self _ _ (fun _ => rfl) | exact fz_pl rfl | (refine Fz.append ?_ ?_ <;> first | exact fz_self _ _ (fun _ => rfl) | exact fz_pl rfl) | (refine Fz.append (Fz.append ?_ ?_) ?_ <;> first | exact fz_self _ _ (fun _ => rfl) | exact fz_pl rfl)))); conv => whnf)
    | (refine OwnQ.mk true ?_; conv => whnf))
   refine Pick.mk oZ (by rw [addN_eq, show 0 + (i : Int).toNat = i by omega, over_get (by simp) (by simp; omega), List.getElem_replicate]) ?_
   try (conv => whnf)
   repeat (first
    | (refine Need.mk ?_ ?_; (focus ((simp only [List.length_map, List.length_append, List.length_cons, List.length_nil, List.length_replicate]; omega))); conv => whnf)
    | (refine Pick.mk ?_ ?_ ?_; rotate_left; (focus (first | (simp only [List.length_map, List.length_append, List.length_cons, List.length_nil, List.length_replicate, Nat.zero_add]; rfl) | (refine wid ?_ ?_ <;> omega))); conv => whnf))
   refine Pick.mk (i + 1) (by constructor <;> first | omega | (simp only []; omega)) (LeX.of ?_)
   try (conv => whnf)
   repeat (refine Need.mk ?_ ?_; (focus (first | omega | (simp; done))); conv => whnf)
   refine Need.mk (by rw [← over_set (by simp) (by simp; omega), addN_eq, show 0 + (i : Int).toNat = i by omega, List.getElem_map]; rfl) ?_
   try (conv => whnf)
   trivial
  ·refine Out.mk false [0, 1, 2, 3, 4] [] ?_
   try (conv => whnf)
   have e := over_end (m := l.map oO) (t := List.replicate l.length oZ) (by simp) (j := i) (by simp; omega)
   refine Need.mk (by rw [e]; exact flat_oO l) ?_
   try (conv => whnf)
   exact ⟨rfl, by rw [e]⟩
def szOps : List OpV → Nat | [] => 0 | o :: l => (o.deps.length + o.key.length + o.text.length) + szOps l
theorem szOps_app (a b : List OpV) : szOps (a ++ b) = szOps a + szOps b := by
 induction a with
 | nil => simp [szOps]
 | cons o a ih => simp only [List.cons_append, szOps, ih]; omega
theorem szOps_take {l : List OpV} {i : Nat} (h : i < l.length) : szOps (l.take (i + 1)) = szOps (l.take i) + (l[i].deps.length + l[i].key.length + l[i].text.length) := by
 rw [List.take_succ_eq_append_getElem h, szOps_app]; simp [szOps]
theorem szOps_le {l : List OpV} (i : Nat) : szOps (l.take i) ≤ szOps l := by
 conv => rhs; rw [← List.take_append_drop i l, szOps_app]
 omega
theorem szOps_mem {l : List OpV} {o : OpV} (h : o ∈ l) : o.deps.length + o.key.length + o.text.length ≤ szOps l := by
 obtain ⟨i, hi, rfl⟩ := List.mem_iff_getElem.1 h
 have h1 := szOps_take hi
 have h2 := szOps_le (l := l) (i + 1)
 omega
theorem l_szOpS (l : List OpV) (left : Int) (hl : l.length ≤ 9223372036854775807) (hd : ∀ o ∈ l, o.deps.length ≤ 9223372036854775807 ∧ o.key.length ≤ 9223372036854775807 ∧ o.text.length ≤ 9223372036854775807) (h0 : 0 ≤ left) (h1 : left ≤ 2 ^ 40) :
  CallD Try.prog id_laws_szOpS [vL l, vI .i64 left] [] (vI .i64 (szL left (l.length + szOps l))) [] := by
 refine F_laws_szOpS ?_
 try (conv => whnf)
 repeat' (first
  | (refine Pick.mk ?_ ?_ ?_; rotate_left; (focus (first | exact List.length_map _ | (refine wid ?_ ?_ <;> omega))); conv => whnf)
  | (refine SeqJ.thru ?_; conv => whnf)
  | (refine br_dec (fun _ => ?_) (fun _ => ?_) <;> first | (exfalso; omega) | contradiction | conv => whnf)
  | (refine br_not ?_; conv => whnf)
  | (refine br_bne (fun _ => ?_) (fun _ => ?_) <;> first | (exfalso; omega) | contradiction | conv => whnf)
  | (refine br_beq (fun _ => ?_) (fun _ => ?_) <;> first | (exfalso; omega) | contradiction | conv => whnf))
 ·refine Out.mk true [] [] ?_
  try (conv => whnf)
  exact ⟨by rw [szL, if_pos (by omega)], rfl⟩
 ·rename_i hle
  refine LoopE.mk (fun i : Nat => mk [(0, vL l), (1, vI .i64 (left - l.length - szOps (l.take i))), (5, vI .i64 i)] []) (fun i => i ≤ l.length ∧ (l.length : Int) + szOps (l.take i) ≤ left) (fun i => l.length - i) 0 ⟨by omega, by simp [szOps]; omega⟩ (LeX.of ?_) ?_
  ·try (conv => whnf)
   repeat (refine Need.mk ?_ ?_; (focus (first | omega | (simp; done) | (simp [szOps]; done))); conv => whnf)
   trivial
  ·rintro i ⟨hi, hs⟩
   try (conv => whnf)
   repeat' (first
    | (refine Pick.mk ?_ ?_ ?_; rotate_left; (focus (first | exact List.length_map _ | (refine pick_nat _ _ _ ?_; omega))); conv => whnf)
    | (refine SeqJ.thru ?_; conv => whnf)
    | (refine br_dec (fun _ => ?_) (fun _ => ?_) <;> first | (exfalso; omega) | contradiction | conv => whnf)
    | (refine br_not ?_; conv => whnf)
    | (refine br_bne (fun _ => ?_) (fun _ => ?_) <;> first | (exfalso; omega) | contradiction | conv => whnf)
    | (refine br_beq (fun _ => ?_) (fun _ => ?_) <;> first | (exfalso; omega) | contradiction | conv => whnf))
   ·obtain ⟨d1, d2, d3⟩ := hd (l[i]'(by omega)) (List.getElem_mem _)
    refine Hand.mk [] ?_
    try (conv => whnf)
    refine CallW.d (l_szOp (l[i]'(by omega)) (left - l.length - szOps (l.take i)) d1 d2 d3 (by omega) (by omega)) ?_
    try (conv => whnf)
    have hstep := szOps_take (l := l) (i := i) (by omega)
    have hsle := szOps_le (l := l) (i + 1)
    by_cases hw : left - l.length - szOps (l.take i) < ((l[i]'(by omega)).deps.length + (l[i]'(by omega)).key.length + (l[i]'(by omega)).text.length : Nat)
    ·rw [show szL (left - l.length - szOps (l.take i)) ((l[i]'(by omega)).deps.length + (l[i]'(by omega)).key.length + (l[i]'(by omega)).text.length) = -1 from if_pos hw]
     try (conv => whnf)
     repeat' (first
      | (refine br_dec (fun _ => ?_) (fun _ => ?_) <;> first | (exfalso; omega) | contradiction | conv => whnf)
      | (refine br_not ?_; conv => whnf)
      | (refine br_bne (fun _ => ?_) (fun _ => ?_) <;> first | (exfalso; omega) | contradiction | conv => whnf)
      | (refine br_beq (fun _ => ?_) (fun _ => ?_) <;> first | (exfalso; omega) | contradiction | conv => whnf))
     refine Out.mk true [] [] ?_
     try (conv => whnf)
     exact ⟨by rw [szL, if_pos (by push_cast; omega)], rfl⟩
    ·rw [show szL (left - l.length - szOps (l.take i)) ((l[i]'(by omega)).deps.length + (l[i]'(by omega)).key.length + (l[i]'(by omega)).text.length) = left - l.length - szOps (l.take i) - ((l[i]'(by omega)).deps.length + (l[i]'(by omega)).key.length + (l[i]'(by omega)).text.length : Nat) from if_neg hw]
     try (conv => whnf)
     repeat' (first
      | (refine Pick.mk ?_ ?_ ?_; rotate_left; (focus ((refine wid ?_ ?_ <;> omega))); conv => whnf)
      | (refine br_dec (fun _ => ?_) (fun _ => ?_) <;> first | (exfalso; omega) | contradiction | conv => whnf)
      | (refine br_not ?_; conv => whnf)
      | (refine br_bne (fun _ => ?_) (fun _ => ?_) <;> first | (exfalso; omega) | contradiction | conv => whnf)
      | (refine br_beq (fun _ => ?_) (fun _ => ?_) <;> first | (exfalso; omega) | contradiction | conv => whnf))
     refine Pick.mk (i + 1) ⟨⟨by omega, by rw [hstep]; push_cast; omega⟩, by omega⟩ (LeX.of ?_)
     try (conv => whnf)
     repeat (refine Need.mk ?_ ?_; (focus (first | omega | (simp; done))); conv => whnf)
     trivial
   ·refine Out.mk true [] [] ?_
    try (conv => whnf)
    have : l.take i = l := List.take_of_length_le (by omega)
    rw [this] at hs ⊢
    exact ⟨by rw [szL, if_neg (by push_cast; omega)]; exact vI_ext (by push_cast; omega), rfl⟩
theorem l_eqOpS (l : List OpV) (hl : l.length ≤ 2 ^ 39) (hd : ∀ o ∈ l, o.deps.length ≤ 2 ^ 39 ∧ o.key.length ≤ 2 ^ 39 ∧ o.text.length ≤ 2 ^ 39) : CallD Try.prog id_laws_eqOpS [vL l, vL l] [] (vB true) [] := by
 refine F_laws_eqOpS ?_
 try (conv => whnf)
 repeat' (first
  | (refine Pick.mk ?_ ?_ ?_; rotate_left; (focus (exact List.length_map _)); conv => whnf)
  | (refine SeqJ.thru ?_; conv => whnf)
  | (refine br_dec (fun _ => ?_) (fun _ => ?_) <;> first | (exfalso; omega) | contradiction | conv => whnf)
  | (refine br_not ?_; conv => whnf)
  | (refine br_bne (fun _ => ?_) (fun _ => ?_) <;> first | (exfalso; omega) | contradiction | conv => whnf)
  | (refine br_beq (fun _ => ?_) (fun _ => ?_) <;> first | (exfalso; omega) | contradiction | conv => whnf))
 refine LoopE.mk (fun i : Nat => mk [(0, vL l), (1, vL l), (5, vI .i64 i)] []) (fun i => i ≤ l.length) (fun i => l.length - i) 0 (by omega) (LeX.of ?_) ?_
 ·try (conv => whnf)
  repeat (refine Need.mk ?_ ?_; (focus (first | omega | (simp; done))); conv => whnf)
  trivial
 ·intro i hi
  try (conv => whnf)
  repeat' (first
   | (refine Pick.mk ?_ ?_ ?_; rotate_left; (focus (first | exact List.length_map _ | (refine pick_nat _ _ _ ?_; omega))); conv => whnf)
   | (refine SeqJ.thru ?_; conv => whnf)
   | (refine br_dec (fun _ => ?_) (fun _ => ?_) <;> first | (exfalso; omega) | contradiction | conv => whnf)
   | (refine br_not ?_; conv => whnf)
   | (refine br_bne (fun _ => ?_) (fun _ => ?_) <;> first | (exfalso; omega) | contradiction | conv => whnf)
   | (refine br_beq (fun _ => ?_) (fun _ => ?_) <;> first | (exfalso; omega) | contradiction | conv => whnf))
  ·obtain ⟨d1, d2, d3⟩ := hd (l[i]'(by omega)) (List.getElem_mem _)
   refine Hand.mk [] ?_
   try (conv => whnf)
   refine CallW.d (l_eqOp (l[i]'(by omega)) d1 d2 d3) ?_
   try (conv => whnf)
   repeat (refine Pick.mk ?_ ?_ ?_; rotate_left; (focus ((refine wid ?_ ?_ <;> omega))); conv => whnf)
   try (conv => whnf)
   repeat' (first
    | (refine br_dec (fun _ => ?_) (fun _ => ?_) <;> first | (exfalso; omega) | contradiction | conv => whnf)
    | (refine br_not ?_; conv => whnf)
    | (refine br_bne (fun _ => ?_) (fun _ => ?_) <;> first | (exfalso; omega) | contradiction | conv => whnf)
    | (refine br_beq (fun _ => ?_) (fun _ => ?_) <;> first | (exfalso; omega) | contradiction | conv => whnf))
   refine Pick.mk (i + 1) (by constructor <;> first | omega | (simp only []; omega)) (LeX.of ?_)
   try (conv => whnf)
   repeat (refine Need.mk ?_ ?_; (focus (first | omega | (simp; done))); conv => whnf)
   trivial
  ·refine Out.mk true [] [] ?_
   try (conv => whnf)
   exact ⟨rfl, rfl⟩
end Go.Proofs.Ytpdjehnlejjfmaa.D
/- The reference's telling whether a log is in order. -/
namespace Go.Proofs.Ytpdjehnlejjfmaa.D
open Go.RowKit
set_option maxRecDepth 100000
set_option maxHeartbeats 4000000
set_option linter.unusedVariables false
set_option linter.unusedSimpArgs false

theorem Good1.take {l : List OpV} {i : Nat} (h : Good1 l i) (hi : i ≤ l.length) : Good1 (l.take i) (l.take i).length := fun j hj hlt => by
 simp only [List.length_take] at hj
 obtain ⟨h1, h2, h3⟩ := h j (by omega) (by omega)
 simp only [List.getElem_take, List.take_take, show min j i = j by omega]
 exact ⟨h1, h2, h3⟩
theorem own_none {l : List OpV} {i : Nat} (h : Good1 l i) (hi : i ≤ l.length) (h0 : 0 < i) {a : Int} (ha : (l[i - 1]'(by omega)).actor < a) : own (l.take i) a = [] := by
 rw [own, List.filter_eq_nil_iff]
 intro o ho
 obtain ⟨j, hj, rfl⟩ := List.mem_iff_getElem.1 ho
 have hs := (h.take hi).sorted
 rw [List.pairwise_iff_getElem] at hs
 have hj' : j < i := by simp at hj; omega
 rcases Nat.lt_or_ge j (i - 1) with g | g
 ·have := hs j (i - 1) hj (by simp; omega) g
  simp only [List.getElem_take] at this ⊢
  simp; omega
 ·obtain rfl : j = i - 1 := by omega
  simp only [List.getElem_take]
  simp; omega
theorem seqStep {l : List OpV} {i : Nat} (hi : i < l.length) (h : Good1 l i) : ((0 < i → (l[i - 1]'(by omega)).actor ≤ l[i].actor) ∧ l[i].seq = (own (l.take i) l[i].actor).length + 1) ↔
  (i = 0 ∧ l[i].seq = 1) ∨ (0 < i ∧ l[i].actor = (l[i - 1]'(by omega)).actor ∧ l[i].seq = (l[i - 1]'(by omega)).seq + 1) ∨ (0 < i ∧ (l[i - 1]'(by omega)).actor < l[i].actor ∧ l[i].seq = 1) := by
 rcases Nat.eq_zero_or_pos i with rfl | h0
 ·simp [own]
 ·have hp : i - 1 < l.length := by omega
  have h1 := (h (i - 1) hp (by omega)).2.2
  have e : own (l.take i) (l[i - 1]).actor = own (l.take (i - 1)) (l[i - 1]).actor ++ [l[i - 1]] := by
   have := own_take hp (l[i - 1]).actor
   rw [if_pos rfl, show i - 1 + 1 = i by omega] at this
   exact this
  rcases Int.lt_trichotomy (l[i - 1]).actor l[i].actor with g | g | g
  ·rw [own_none h (by omega) h0 g]
   constructor
   ·rintro ⟨_, h2⟩; exact .inr (.inr ⟨h0, g, by simpa using h2⟩)
   ·rintro (⟨h2, _⟩ | ⟨_, h2, _⟩ | ⟨_, _, h2⟩)
    ·omega
    ·omega
    ·exact ⟨fun _ => by omega, by simpa using h2⟩
  ·rw [← g, e]
   simp only [List.length_append, List.length_singleton]
   constructor
   ·rintro ⟨_, h2⟩; exact .inr (.inl ⟨h0, by simp, by push_cast at h2; omega⟩)
   ·rintro (⟨h2, _⟩ | ⟨_, _, h2⟩ | ⟨_, h2, _⟩)
    ·omega
    ·exact ⟨fun _ => by omega, by push_cast; omega⟩
    ·omega
  ·constructor
   ·rintro ⟨h2, _⟩; have := h2 h0; omega
   ·rintro (⟨h2, _⟩ | ⟨_, h2, _⟩ | ⟨_, h2, _⟩) <;> omega
theorem s_l02New : CallD Try.prog id_spec_l02New [] [] (.agg [.os (.v 0) 1 0 16]) [.own 1 ((List.replicate 16 (0 : Int)).map inD)] := by
 refine F_spec_l02New ?_
 try (conv => whnf)
 repeat (first
  | (refine Need.mk ?_ ?_; (focus (omega)); conv => whnf)
  | (refine Pick.mk ?_ ?_ ?_; rotate_left; (focus (first | (simp only [List.length_map, List.length_append, List.length_cons, List.length_nil, List.length_replicate, Nat.zero_add]; rfl) | exact natlit _)); conv => whnf))
 refine Out.mk false [0, 1, 2, 3, 4] [] ?_
 try (conv => whnf)
 repeat (refine Need.mk ?_ ?_; (focus ((first | exact flat_by _ | exact flat_in _ | exact flat_st _ | exact flat_ts _ | exact flat_bo _ | exact flat_cl rfl))); conv => whnf)
 exact ⟨rfl, rfl⟩
theorem s_l08Counts (l : List OpV) (hl : ∀ o ∈ l, actOk o.actor) (hle : l.length ≤ 2 ^ 40) : CallD Try.prog id_spec_l08Counts [vL l] [] (.agg [.os (.v 0) 1 0 16]) [.own 1 ((cnts l).map inD)] := by
 refine F_spec_l08Counts ?_
 try (conv => whnf)
 refine Hand.mk [] ?_
 try (conv => whnf)
 refine CallW.d (s_l02New) ?_
 try (conv => whnf)
 refine LoopE.mk (fun i : Nat => mk [(0, vL l), (2, .one (.ptr 4096 0)), (3, .one (.ptr 8208 0)), (4, vI .i64 i)] [(4096, .box [.nil]), (8208, .box [.os (.v 8192) 1 0 16]), (8192, .own 1 ((cnts (l.take i)).map inD))])
  (fun i => i ≤ l.length) (fun i => l.length - i) 0 (by omega) (LeX.of ?_) ?_
 ·try (conv => whnf)
  repeat (refine Need.mk ?_ ?_; (focus (first | omega | (simp; done) | rfl)); conv => whnf)
  trivial
 ·intro i hi
  try (conv => whnf)
  repeat' (first
   | (refine Pick.mk ?_ ?_ ?_; rotate_left; (focus (first | exact List.length_map _ | (refine pick_nat _ _ _ ?_; omega))); conv => whnf)
   | (refine SeqJ.thru ?_; conv => whnf)
   | (refine br_dec (fun _ => ?_) (fun _ => ?_) <;> first | (exfalso; omega) | contradiction | conv => whnf)
   | (refine br_not ?_; conv => whnf)
   | (refine br_bne (fun _ => ?_) (fun _ => ?_) <;> first | (exfalso; omega) | contradiction | conv => whnf)
   | (refine br_beq (fun _ => ?_) (fun _ => ?_) <;> first | (exfalso; omega) | contradiction | conv => whnf))
  ·have hlt : i < l.length := by omega
   obtain ⟨a0, a1⟩ := hl _ (List.getElem_mem hlt)
   have hcn := cnts_get (l.take i) (a := l[i].actor.toNat) (by omega)
   rw [show ((l[i].actor.toNat : Nat) : Int) = l[i].actor by omega] at hcn
   have hle2 := own_le (l.take i) l[i].actor
   simp only [List.length_take] at hle2
   try (conv => whnf)
   repeat (first
    | (refine Need.mk ?_ ?_; (focus (first | omega | (simp only [List.length_map, List.length_append, List.length_cons, List.length_nil, List.length_replicate]; omega))); conv => whnf)
    | (refine Pick.mk ?_ ?_ ?_; rotate_left; (focus (first | with_reducible exact set_inI _ _ _ _ | (with_reducible refine get_mapI _ _ _ ?_ ?_ <;> first | omega | (simp; omega)) | (refine wid ?_ ?_ <;> omega))); conv => whnf))
   refine Pick.mk (i + 1) (by constructor <;> first | omega | (simp only []; omega)) (LeX.of ?_)
   try (conv => whnf)
   repeat (refine Need.mk ?_ ?_; (focus (first | omega | (simp; done))); conv => whnf)
   refine Need.mk (by rw [hcn, cnts_set hlt ⟨a0, a1⟩]) ?_
   try (conv => whnf)
   trivial
  ·refine Out.mk false [0, 1, 2, 3, 4] [] ?_
   try (conv => whnf)
   repeat (refine Need.mk ?_ ?_; (focus ((first | exact flat_by _ | exact flat_in _ | exact flat_st _ | exact flat_ts _ | exact flat_bo _ | exact flat_cl rfl))); conv => whnf)
   exact ⟨rfl, by rw [List.take_of_length_le (by omega)]⟩
theorem s_l08Find (l p m q : List OpV) (a n : Int) (hl : l = p ++ m ++ q) (hp : ∀ o ∈ p, o.actor ≠ a) (hm : ∀ o ∈ m, o.actor = a) (h1 : 1 ≤ n) (h2 : n ≤ m.length) (hle : l.length ≤ 2 ^ 40) :
  CallD Try.prog id_spec_l08Find [vL l, vI .i64 a, vI .i64 n] [] (vI .i64 (p.length + n - 1)) [] := by
 refine F_spec_l08Find ?_
 have hL : l.length = p.length + m.length + q.length := by rw [hl]; simp only [List.length_append]
 try (conv => whnf)
 refine LoopE.mk (fun i : Nat => mk [(0, vL l), (1, vI .i64 a), (2, vI .i64 n), (7, vI .i64 i)] []) (fun i => i ≤ p.length) (fun i => p.length - i) 0 (by omega) (LeX.of ?_) ?_
 ·try (conv => whnf)
  repeat (refine Need.mk ?_ ?_; (focus (first | omega | (simp; done))); conv => whnf)
  trivial
 ·intro i hi
  have hat : i < l.length := by omega
  rcases Nat.lt_or_ge i p.length with g | g
  ·have hne : l[i].actor ≠ a := by
    have e : l[i] = p[i] := by simp only [hl]; rw [List.getElem_append_left (by simp; omega), List.getElem_append_left g]
    rw [e]; exact hp _ (List.getElem_mem g)
   try (conv => whnf)
   repeat' (first
    | (refine Pick.mk ?_ ?_ ?_; rotate_left; (focus (first | exact List.length_map _ | (refine wid ?_ ?_ <;> omega) | (refine pick_nat _ _ _ ?_; omega))); conv => whnf)
    | (refine SeqJ.thru ?_; conv => whnf)
    | (refine br_dec (fun _ => ?_) (fun _ => ?_) <;> first | (exfalso; omega) | contradiction | conv => whnf)
    | (refine br_not ?_; conv => whnf)
    | (refine br_bne (fun _ => ?_) (fun _ => ?_) <;> first | (exfalso; omega) | contradiction | conv => whnf)
    | (refine br_beq (fun _ => ?_) (fun _ => ?_) <;> first | (exfalso; omega) | contradiction | conv => whnf))
   refine Pick.mk (i + 1) (by constructor <;> first | omega | (simp only []; omega)) (LeX.of ?_)
   try (conv => whnf)
   repeat (refine Need.mk ?_ ?_; (focus (first | omega | (simp; done))); conv => whnf)
   trivial
  ·obtain rfl : i = p.length := by omega
   have heq : l[p.length].actor = a := by
    have e : l[p.length] = m[0] := by simp only [hl]; rw [List.getElem_append_left (by simp; omega), List.getElem_append_right (by omega)]; simp
    rw [e]; exact hm _ (List.getElem_mem _)
   have heq2 : (l[((p.length : Int) + n - 1).toNat]'(by omega)).actor = a := by
    have e : l[((p.length : Int) + n - 1).toNat]'(by omega) = m[(n - 1).toNat]'(by omega) := by
     simp only [hl]
     rw [List.getElem_append_left (by simp; omega), List.getElem_append_right (by omega)]
     congr 1; omega
    rw [e]; exact hm _ (List.getElem_mem _)
   try (conv => whnf)
   repeat' (first
    | (refine Pick.mk ?_ ?_ ?_; rotate_left; (focus (first | exact List.length_map _ | (refine wid ?_ ?_ <;> omega) | (refine pick_nat _ _ _ ?_; omega) | (refine pick_int _ _ _ ?_ ?_ <;> omega))); conv => whnf)
    | (refine SeqJ.thru ?_; conv => whnf)
    | (refine br_dec (fun _ => ?_) (fun _ => ?_) <;> first | (exfalso; omega) | contradiction | conv => whnf)
    | (refine br_not ?_; conv => whnf)
    | (refine br_bne (fun _ => ?_) (fun _ => ?_) <;> first | (exfalso; omega) | contradiction | conv => whnf)
    | (refine br_beq (fun _ => ?_) (fun _ => ?_) <;> first | (exfalso; omega) | contradiction | conv => whnf))
   all_goals
    refine Out.mk true [] [] ?_
    try (conv => whnf)
   all_goals exact ⟨rfl, rfl⟩
theorem s_l08Thing (k : Int) : CallD Try.prog id_spec_l08Thing [vI .i64 k] [] (vI .i64 (thS k)) [] := by
 refine F_spec_l08Thing ?_
 try (conv => whnf)
 repeat' (first
  | (refine SeqJ.thru ?_; conv => whnf)
  | (refine br_dec (fun _ => ?_) (fun _ => ?_) <;> first | (exfalso; omega) | contradiction | conv => whnf)
  | (refine br_not ?_; conv => whnf)
  | (refine br_bne (fun _ => ?_) (fun _ => ?_) <;> first | (exfalso; omega) | contradiction | conv => whnf)
  | (refine br_beq (fun _ => ?_) (fun _ => ?_) <;> first | (exfalso; omega) | contradiction | conv => whnf))
 all_goals
  refine Out.mk true [] [] ?_
  try (conv => whnf)
 all_goals exact ⟨by simp only [thS]; split <;> (try split) <;> first | rfl | omega, rfl⟩
theorem own_find {l : List OpV} (h : l.Pairwise (fun x y => x.actor ≤ y.actor)) (a n : Int) (h1 : 1 ≤ n) (h2 : n ≤ (own l a).length) :
  ∃ p q, l = p ++ own l a ++ q ∧ (∀ o ∈ p, o.actor ≠ a) ∧ (∀ o ∈ own l a, o.actor = a) ∧ ∀ hlt : ((p.length : Int) + n - 1).toNat < l.length, (own l a)[(n - 1).toNat]? = some l[((p.length : Int) + n - 1).toNat] := by
 obtain ⟨p, q, e, hp, hq⟩ := split_own l a h
 refine ⟨p, q, e, fun o ho => by have := hp o ho; omega, fun o ho => by simpa using (List.mem_filter.1 ho).2, fun hlt => ?_⟩
 rw [← List.getElem?_eq_getElem hlt]
 conv => rhs; rw [e]
 rw [List.append_assoc, List.getElem?_append_right (by omega), List.getElem?_append_left (by omega)]
 congr 1; omega
theorem s_l08Causes (l : List OpV) (o : OpV) (hg : Good1 l l.length) (ho : OpOk o) (hle : l.length ≤ 2 ^ 40) : CallD Try.prog id_spec_l08Causes [vL l, vV (cnts l), vO o] [] (vB (decide (Cause l o))) [] := by
  refine F_spec_l08Causes ?_
  have hvl := ho.vec.1
  try (conv => whnf)
  refine LoopE.mk (fun a : Nat => mk [(0, vL l), (7, vI .i64 a), (4, .one (.ptr 4096 0)), (5, .one (.ptr 4112 0))] [(4096, .box [cN (cnts l)]), (4112, .box (opC o))]) (fun a => a ≤ 16 ∧ ∀ b : Nat, b < a → CauseAt l o b) (fun a => 16 - a) 0 ⟨by omega, fun b h => by omega⟩ (LeX.of ?_) ?_
  · try (conv => whnf)
    repeat (refine Need.mk ?_ ?_; (focus (first | omega | (simp; done))); conv => whnf)
    trivial
  · rintro a ⟨ha, hca⟩
    by_cases ha16 : a < 16
    · have hcn := cnts_get l ha16
      have hcl := cnts_length l
      have e3 : o.deps.getD a 0 = o.deps[a] := by simp [List.getD, show a < o.deps.length by omega]
      obtain ⟨c0, c1⟩ := ho.vec.2 _ (List.getElem_mem (show a < o.deps.length by omega))
      have step : CauseAt l o a → ∀ b : Nat, b < a + 1 → CauseAt l o b := fun h b hb => by
        rcases Nat.lt_or_ge b a with g | g
        · exact hca b g
        · obtain rfl : b = a := by omega
          exact h
      try (conv => whnf)
      repeat' (first
        | (refine Need.mk ?_ ?_; (focus (((conv => whnf); (repeat (first | (refine Need.mk (by first | rfl | omega | (simp; done)) ?_; conv => whnf) | (refine Pick.mk ?_ ?_ ?_; rotate_left; (focus (first | with_reducible exact xor_u8 _ _ | (with_reducible refine xor_i64 ?_ ?_; all_goals omega) | (with_reducible refine xor_u32 ?_ ?_; all_goals omega) | assumption | with_reducible exact set_byN _ _ _ _ | with_reducible exact set_byI _ _ _ _ | with_reducible exact set_inN _ _ _ _ | with_reducible exact set_inI _ _ _ _ | with_reducible exact set_stN _ _ _ _ | with_reducible exact set_tsN _ _ _ _ | with_reducible exact set_tsI _ _ _ _ | with_reducible exact set_boN _ _ _ _ | with_reducible exact set_boI _ _ _ _ | (with_reducible refine get_mapN _ _ _ ?_; first | omega | (simp; omega)) | (with_reducible refine get_mapI _ _ _ ?_ ?_ <;> first | omega | (simp; omega)) | exact bs_beq _ _ | exact bs_less _ _ | exact bs_leq _ _ | with_reducible exact bs_app _ _ | (refine bs_get _ _ ?_; omega) | (refine bs_int _ _ ?_ ?_ <;> omega) | with_reducible exact sl_map0 _ _ _ | with_reducible exact sl_mapN _ _ _ | with_reducible exact sl_map _ _ _ _ | exact bs_extract0 _ _ | exact bs_extractN _ _ | exact bs_extract _ _ _ | (refine bnd_id ?_; omega) | (refine bnd_sub ?_ ?_ <;> omega) | (refine bnd_add ?_; omega) | (refine bnd_subN ?_ ?_ <;> omega) | (refine bnd_int ?_ ?_ <;> omega) | ((show @Eq Nat (_ + Int.toNat _ * _) _); simp only [Int.toNat_natCast, Nat.zero_add, Nat.mul_one]; rfl) | ((show @Eq (List _) (List.set [_] _ _) _); simp only [List.set_cons_zero]; rfl) | exact List.length_map _ | exact size_bs _ | (simp only [List.length_map, List.length_append, List.length_cons, List.length_nil, List.length_replicate, Nat.zero_add]; rfl) | with_reducible exact List.nil_append _ | with_reducible exact map_app _ _ _ | exact map_snoc byD _ _ | exact map_snoc inD _ _ | exact map_snoc stD _ _ | exact map_snoc tsD _ _ | (simp only [chunks]; rfl) | (refine wid ?_ ?_ <;> omega) | exact wby _ | with_reducible exact wby32 _ | with_reducible exact wu32 _ | exact wby64 _ | exact shr8 _ | exact shr16 _ | exact shr24 _ | exact shr32 _ | (refine tmodn ?_; omega) | (refine wdiv ?_ ?_ ?_ <;> omega) | exact wbyte _ | exact natlit _ | exact rep_by _ | exact rep_in _ | exact rep_bo _ | exact rep_st _ | (refine pick_nat _ _ _ ?_; omega) | (refine pick_int _ _ _ ?_ ?_ <;> omega) | (refine SlOf.full ?_; first | (simp; done) | (simp; omega)) | (with_reducible refine SlOf.pre _ _ ?_; first | omega | (simp; omega)) | (refine SlF.self _ _ ?_ ?_; (first | rfl | omega | (simp; done) | (simp; omega)); (exact fun _ => rfl)) | (refine SlF.pre _ _ ?_ ?_; (first | omega | (simp; omega)); (exact fun _ => rfl)) | (refine SlF.same ?_ ?_; (first | rfl | omega | (simp; done) | (simp; omega)); (first | exact fz_self _ _ (fun _ => rfl) | exact fz_pl rfl | (refine Fz.append ?_ ?_ <;> first | exact fz_self _ _ (fun _ => rfl) | exact fz_pl rfl) | (refine Fz.append (Fz.append ?_ ?_) ?_ <;> first | exact fz_self _ _ (fun _ => rfl) | exact fz_pl rfl))) | (simp only [Int.toNat_natCast, Nat.zero_add, Nat.mul_one]; rfl) | ((show @Eq (Option CV) _ _); rfl) | ((fail_if_success (show @Eq (Option _) _ _)); rfl) | ((show @Eq (Option _) _ _); simp only [List.getElem?_cons_zero, List.getElem?_cons_succ]; done) | ((show @Eq (Option _) _ _); simp only [List.getElem?_cons_zero, List.getElem?_cons_succ]; rfl) | with_reducible rfl)); conv => whnf))); exact Done.mk trivial))); conv => whnf)
        | (refine Pick.mk ?_ ?_ ?_; rotate_left; (focus (first | (refine wid ?_ ?_ <;> omega) | (refine pick_nat _ _ _ ?_; omega))); conv => whnf)
        | (refine SeqJ.thru ?_; conv => whnf)
        | (refine br_dec (fun _ => ?_) (fun _ => ?_) <;> first | (exfalso; omega) | contradiction | conv => whnf)
        | (refine br_not ?_; conv => whnf)
        | (refine br_bne (fun _ => ?_) (fun _ => ?_) <;> first | (exfalso; omega) | contradiction | conv => whnf)
        | (refine br_beq (fun _ => ?_) (fun _ => ?_) <;> first | (exfalso; omega) | contradiction | conv => whnf))
      · refine Out.mk true [] [] ?_
        try (conv => whnf)
        exact ⟨dec_f fun h => by have := (h a ha16).1; rw [e3] at this; omega, rfl⟩
      · obtain ⟨p, q, e, hp, hm, hat⟩ := own_find hg.sorted a o.deps[a] (by omega) (by omega)
        have hL : l.length = p.length + (own l a).length + q.length := by conv => lhs; rw [e]
                                                                          simp only [List.length_append]
        have e4 := hat (by omega)
        refine Hand.mk [] ?_
        try (conv => whnf)
        refine CallW.d (s_l08Find l p (own l a) q a o.deps[a] e hp hm (by omega) (by omega) hle) ?_
        try (conv => whnf)
        repeat (first
          | (refine Need.mk ?_ ?_; (focus (((conv => whnf); (repeat (first | (refine Need.mk (by first | rfl | omega | (simp; done)) ?_; conv => whnf) | (refine Pick.mk ?_ ?_ ?_; rotate_left; (focus (first | with_reducible exact xor_u8 _ _ | (with_reducible refine xor_i64 ?_ ?_; all_goals omega) | (with_reducible refine xor_u32 ?_ ?_; all_goals omega) | assumption | with_reducible exact set_byN _ _ _ _ | with_reducible exact set_byI _ _ _ _ | with_reducible exact set_inN _ _ _ _ | with_reducible exact set_inI _ _ _ _ | with_reducible exact set_stN _ _ _ _ | with_reducible exact set_tsN _ _ _ _ | with_reducible exact set_tsI _ _ _ _ | with_reducible exact set_boN _ _ _ _ | with_reducible exact set_boI _ _ _ _ | (with_reducible refine get_mapN _ _ _ ?_; first | omega | (simp; omega)) | (with_reducible refine get_mapI _ _ _ ?_ ?_ <;> first | omega | (simp; omega)) | exact bs_beq _ _ | exact bs_less _ _ | exact bs_leq _ _ | with_reducible exact bs_app _ _ | (refine bs_get _ _ ?_; omega) | (refine bs_int _ _ ?_ ?_ <;> omega) | with_reducible exact sl_map0 _ _ _ | with_reducible exact sl_mapN _ _ _ | with_reducible exact sl_map _ _ _ _ | exact bs_extract0 _ _ | exact bs_extractN _ _ | exact bs_extract _ _ _ | (refine bnd_id ?_; omega) | (refine bnd_sub ?_ ?_ <;> omega) | (refine bnd_add ?_; omega) | (refine bnd_subN ?_ ?_ <;> omega) | (refine bnd_int ?_ ?_ <;> omega) | ((show @Eq Nat (_ + Int.toNat _ * _) _); simp only [Int.toNat_natCast, Nat.zero_add, Nat.mul_one]; rfl) | ((show @Eq (List _) (List.set [_] _ _) _); simp only [List.set_cons_zero]; rfl) | exact List.length_map _ | exact size_bs _ | (simp only [List.length_map, List.length_append, List.length_cons, List.length_nil, List.length_replicate, Nat.zero_add]; rfl) | with_reducible exact List.nil_append _ | with_reducible exact map_app _ _ _ | exact map_snoc byD _ _ | exact map_snoc inD _ _ | exact map_snoc stD _ _ | exact map_snoc tsD _ _ | (simp only [chunks]; rfl) | (refine wid ?_ ?_ <;> omega) | exact wby _ | with_reducible exact wby32 _ | with_reducible exact wu32 _ | exact wby64 _ | exact shr8 _ | exact shr16 _ | exact shr24 _ | exact shr32 _ | (refine tmodn ?_; omega) | (refine wdiv ?_ ?_ ?_ <;> omega) | exact wbyte _ | exact natlit _ | exact rep_by _ | exact rep_in _ | exact rep_bo _ | exact rep_st _ | (refine pick_nat _ _ _ ?_; omega) | (refine pick_int _ _ _ ?_ ?_ <;> omega) | (refine SlOf.full ?_; first | (simp; done) | (simp; omega)) | (with_reducible refine SlOf.pre _ _ ?_; first | omega | (simp; omega)) | (refine SlF.self _ _ ?_ ?_; (first | rfl | omega | (simp; done) | (simp; omega)); (exact fun _ => rfl)) | (refine SlF.pre _ _ ?_ ?_; (first | omega | (simp; omega)); (exact fun _ => rfl)) | (refine SlF.same ?_ ?_; (first | rfl | omega | (simp; done) | (simp; omega)); (first | exact fz_self _ _ (fun _ => rfl) | exact fz_pl rfl | (refine Fz.append ?_ ?_ <;> first | exact fz_self _ _ (fun _ => rfl) | exact fz_pl rfl) | (refine Fz.append (Fz.append ?_ ?_) ?_ <;> first | exact fz_self _ _ (fun _ => rfl) | exact fz_pl rfl))) | (simp only [Int.toNat_natCast, Nat.zero_add, Nat.mul_one]; rfl) | ((show @Eq (Option CV) _ _); rfl) | ((fail_if_success (show @Eq (Option _) _ _)); rfl) | ((show @Eq (Option _) _ _); simp only [List.getElem?_cons_zero, List.getElem?_cons_succ]; done) | ((show @Eq (Option _) _ _); simp only [List.getElem?_cons_zero, List.getElem?_cons_succ]; rfl) | with_reducible rfl)); conv => whnf))); exact Done.mk trivial))); conv => whnf)
          | (refine Pick.mk ?_ ?_ ?_; rotate_left; (focus ((refine pick_int _ _ _ ?_ ?_ <;> omega))); conv => whnf))
        refine Hand.mk [] ?_
        try (conv => whnf)
        refine CallW.d (s_l08Stamp (l[((p.length : Int) + o.deps[a] - 1).toNat]'(by omega))) ?_
        try (conv => whnf)
        repeat (refine Need.mk ?_ ?_; (focus (((conv => whnf); (repeat (first | (refine Need.mk (by first | rfl | omega | (simp; done)) ?_; conv => whnf) | (refine Pick.mk ?_ ?_ ?_; rotate_left; (focus (first | with_reducible exact xor_u8 _ _ | (with_reducible refine xor_i64 ?_ ?_; all_goals omega) | (with_reducible refine xor_u32 ?_ ?_; all_goals omega) | assumption | with_reducible exact set_byN _ _ _ _ | with_reducible exact set_byI _ _ _ _ | with_reducible exact set_inN _ _ _ _ | with_reducible exact set_inI _ _ _ _ | with_reducible exact set_stN _ _ _ _ | with_reducible exact set_tsN _ _ _ _ | with_reducible exact set_tsI _ _ _ _ | with_reducible exact set_boN _ _ _ _ | with_reducible exact set_boI _ _ _ _ | (with_reducible refine get_mapN _ _ _ ?_; first | omega | (simp; omega)) | (with_reducible refine get_mapI _ _ _ ?_ ?_ <;> first | omega | (simp; omega)) | exact bs_beq _ _ | exact bs_less _ _ | exact bs_leq _ _ | with_reducible exact bs_app _ _ | (refine bs_get _ _ ?_; omega) | (refine bs_int _ _ ?_ ?_ <;> omega) | with_reducible exact sl_map0 _ _ _ | with_reducible exact sl_mapN _ _ _ | with_reducible exact sl_map _ _ _ _ | exact bs_extract0 _ _ | exact bs_extractN _ _ | exact bs_extract _ _ _ | (refine bnd_id ?_; omega) | (refine bnd_sub ?_ ?_ <;> omega) | (refine bnd_add ?_; omega) | (refine bnd_subN ?_ ?_ <;> omega) | (refine bnd_int ?_ ?_ <;> omega) | ((show @Eq Nat (_ + Int.toNat _ * _) _); simp only [Int.toNat_natCast, Nat.zero_add, Nat.mul_one]; rfl) | ((show @Eq (List _) (List.set [_] _ _) _); simp only [List.set_cons_zero]; rfl) | exact List.length_map _ | exact size_bs _ | (simp only [List.length_map, List.length_append, List.length_cons, List.length_nil, List.length_replicate, Nat.zero_add]; rfl) | with_reducible exact List.nil_append _ | with_reducible exact map_app _ _ _ | exact map_snoc byD _ _ | exact map_snoc inD _ _ | exact map_snoc stD _ _ | exact map_snoc tsD _ _ | (simp only [chunks]; rfl) | (refine wid ?_ ?_ <;> omega) | exact wby _ | with_reducible exact wby32 _ | with_reducible exact wu32 _ | exact wby64 _ | exact shr8 _ | exact shr16 _ | exact shr24 _ | exact shr32 _ | (refine tmodn ?_; omega) | (refine wdiv ?_ ?_ ?_ <;> omega) | exact wbyte _ | exact natlit _ | exact rep_by _ | exact rep_in _ | exact rep_bo _ | exact rep_st _ | (refine pick_nat _ _ _ ?_; omega) | (refine pick_int _ _ _ ?_ ?_ <;> omega) | (refine SlOf.full ?_; first | (simp; done) | (simp; omega)) | (with_reducible refine SlOf.pre _ _ ?_; first | omega | (simp; omega)) | (refine SlF.self _ _ ?_ ?_; (first | rfl | omega | (simp; done) | (simp; omega)); (exact fun _ => rfl)) | (refine SlF.pre _ _ ?_ ?_; (first | omega | (simp; omega)); (exact fun _ => rfl)) | (refine SlF.same ?_ ?_; (first | rfl | omega | (simp; done) | (simp; omega)); (first | exact fz_self _ _ (fun _ => rfl) | exact fz_pl rfl | (refine Fz.append ?_ ?_ <;> first | exact fz_self _ _ (fun _ => rfl) | exact fz_pl rfl) | (refine Fz.append (Fz.append ?_ ?_) ?_ <;> first | exact fz_self _ _ (fun _ => rfl) | exact fz_pl rfl))) | (simp only [Int.toNat_natCast, Nat.zero_add, Nat.mul_one]; rfl) | ((show @Eq (Option CV) _ _); rfl) | ((fail_if_success (show @Eq (Option _) _ _)); rfl) | ((show @Eq (Option _) _ _); simp only [List.getElem?_cons_zero, List.getElem?_cons_succ]; done) | ((show @Eq (Option _) _ _); simp only [List.getElem?_cons_zero, List.getElem?_cons_succ]; rfl) | with_reducible rfl)); conv => whnf))); exact Done.mk trivial))); conv => whnf)
        refine Hand.mk [] ?_
        try (conv => whnf)
        refine CallW.d (s_l08Stamp o) ?_
        try (conv => whnf)
        refine Hand.mk [] ?_
        try (conv => whnf)
        refine CallW.d (s_StampLess _ _ o.time o.actor) ?_
        try (conv => whnf)
        try (conv => whnf)
        repeat' (first
          | (refine Pick.mk ?_ ?_ ?_; rotate_left; (focus ((refine wid ?_ ?_ <;> omega))); conv => whnf)
          | (refine br_dec (fun _ => ?_) (fun _ => ?_) <;> first | (exfalso; omega) | contradiction | conv => whnf)
          | (refine br_not ?_; conv => whnf)
          | (refine br_bne (fun _ => ?_) (fun _ => ?_) <;> first | (exfalso; omega) | contradiction | conv => whnf)
          | (refine br_beq (fun _ => ?_) (fun _ => ?_) <;> first | (exfalso; omega) | contradiction | conv => whnf))
        · rename_i hst
          refine Pick.mk (a + 1) ⟨⟨by omega, step ⟨by rw [e3]; omega, fun _ x hx => by rw [e3, e4] at hx; injection hx with hx; subst hx; exact hst⟩⟩, by omega⟩ (LeX.of ?_)
          try (conv => whnf)
          repeat (refine Need.mk ?_ ?_; (focus (first | omega | (simp; done))); conv => whnf)
          trivial
        · rename_i hst
          refine Out.mk true [] [] ?_
          try (conv => whnf)
          exact ⟨dec_f fun h => hst ((h a ha16).2 (by rw [e3]; omega) _ (by rw [e3]; exact e4)), rfl⟩
      · refine Pick.mk (a + 1) ⟨⟨by omega, step ⟨by rw [e3]; omega, fun h => by rw [e3] at h; omega⟩⟩, by omega⟩ (LeX.of ?_)
        try (conv => whnf)
        repeat (refine Need.mk ?_ ?_; (focus (first | omega | (simp; done))); conv => whnf)
        trivial
    · try (conv => whnf)
      repeat' (first
        | (refine SeqJ.thru ?_; conv => whnf)
        | (refine br_dec (fun _ => ?_) (fun _ => ?_) <;> first | (exfalso; omega) | contradiction | conv => whnf)
        | (refine br_not ?_; conv => whnf)
        | (refine br_bne (fun _ => ?_) (fun _ => ?_) <;> first | (exfalso; omega) | contradiction | conv => whnf)
        | (refine br_beq (fun _ => ?_) (fun _ => ?_) <;> first | (exfalso; omega) | contradiction | conv => whnf))
      refine Out.mk true [] [] ?_
      try (conv => whnf)
      exact ⟨dec_t fun b hb => hca b (by omega), rfl⟩
end Go.Proofs.Ytpdjehnlejjfmaa.D
/- The reference's telling whether a log is in order: the whole. -/
namespace Go.Proofs.Ytpdjehnlejjfmaa.D
open Go.RowKit
set_option maxRecDepth 100000
set_option maxHeartbeats 4000000
set_option linter.unusedVariables false
set_option linter.unusedSimpArgs false

theorem s_LogOK (l : List OpV) (hw : ∀ o ∈ l, o.key.length ≤ 2 ^ 40 ∧ o.text.length ≤ 2 ^ 40) : CallD Try.prog id_spec_LogOK [vL l] [] (vB (decide (LogOk l))) [] := by
 refine F_spec_LogOK ?_
 try (conv => whnf)
 repeat' (first
  | (refine Pick.mk ?_ ?_ ?_; rotate_left; (focus (exact List.length_map _)); conv => whnf)
  | (refine SeqJ.thru ?_; conv => whnf)
  | (refine br_dec (fun _ => ?_) (fun _ => ?_) <;> first | (exfalso; omega) | contradiction | conv => whnf)
  | (refine br_not ?_; conv => whnf)
  | (refine br_bne (fun _ => ?_) (fun _ => ?_) <;> first | (exfalso; omega) | contradiction | conv => whnf)
  | (refine br_beq (fun _ => ?_) (fun _ => ?_) <;> first | (exfalso; omega) | contradiction | conv => whnf))
 ·rename_i hlen
  refine Out.mk true [] [] ?_
  try (conv => whnf)
  exact ⟨dec_f fun h => by have := h.len; omega, rfl⟩
 ·rename_i hlen
  refine LoopE.mk (fun i : Nat => mk [(0, vL l), (3, vI .i64 i)] []) (fun i => i ≤ l.length ∧ Good1 l i) (fun i => l.length - i) 0 ⟨by omega, Good1.zero l⟩ (LeX.of ?_) ?_
  ·try (conv => whnf)
   repeat (refine Need.mk ?_ ?_; (focus (first | omega | (simp; done))); conv => whnf)
   trivial
  ·rintro i ⟨hi, hg⟩
   by_cases hlt : i < l.length
   ·obtain ⟨hk, ht⟩ := hw _ (List.getElem_mem hlt)
    by_cases hok : OpOk l[i]
    ·obtain ⟨a0, a1⟩ := hok.st.2
     obtain ⟨q0, q1⟩ := hok.seq
     by_cases h0 : i = 0
     ·try (conv => whnf)
      repeat' (first
       | (refine Pick.mk ?_ ?_ ?_; rotate_left; (focus (first | exact List.length_map _ | (refine pick_nat _ _ _ ?_; omega))); conv => whnf)
       | (refine SeqJ.thru ?_; conv => whnf)
       | (refine br_dec (fun _ => ?_) (fun _ => ?_) <;> first | (exfalso; omega) | contradiction | conv => whnf)
       | (refine br_not ?_; conv => whnf)
       | (refine br_bne (fun _ => ?_) (fun _ => ?_) <;> first | (exfalso; omega) | contradiction | conv => whnf)
       | (refine br_beq (fun _ => ?_) (fun _ => ?_) <;> first | (exfalso; omega) | contradiction | conv => whnf))
      refine Hand.mk [] ?_
      try (conv => whnf)
      refine CallW.d (s_l08OpOK l[i] hk ht) ?_
      try (conv => whnf)
      try (conv => whnf)
      repeat' (first
       | (refine Pick.mk ?_ ?_ ?_; rotate_left; (focus (first | (refine wid ?_ ?_ <;> omega) | (refine pick_nat _ _ _ ?_; omega))); conv => whnf)
       | (refine br_dec (fun _ => ?_) (fun _ => ?_) <;> first | (exfalso; omega) | contradiction | conv => whnf)
       | (refine br_not ?_; conv => whnf)
       | (refine br_bne (fun _ => ?_) (fun _ => ?_) <;> first | (exfalso; omega) | contradiction | conv => whnf)
       | (refine br_beq (fun _ => ?_) (fun _ => ?_) <;> first | (exfalso; omega) | contradiction | conv => whnf))
      all_goals
       first
        |skip
         have hst := (seqStep hlt hg).2 (by omega)
         refine Pick.mk (i + 1) ⟨⟨by omega, Good1.step hlt hg hok hst.1 hst.2⟩, by omega⟩ (LeX.of ?_)
         try (conv => whnf)
         repeat (refine Need.mk ?_ ?_; (focus (first | omega | (simp; done))); conv => whnf)
         trivial
        |skip
         refine Out.mk true [] [] ?_
         try (conv => whnf)
         exact ⟨dec_f fun h => by have := (seqStep hlt hg).1 ⟨(h.good.at hlt).2.1, (h.good.at hlt).2.2⟩; omega, rfl⟩
     ·have hp := (hg (i - 1) (by omega) (by omega)).1
      obtain ⟨b0, b1⟩ := hp.st.2
      obtain ⟨r0, r1⟩ := hp.seq
      have ep : ((i : Int) - 1).toNat = i - 1 := by omega
      have ha : (l[((i : Int) - 1).toNat]'(by omega)).actor = (l[i - 1]'(by omega)).actor := by simp only [ep]
      have hs : (l[((i : Int) - 1).toNat]'(by omega)).seq = (l[i - 1]'(by omega)).seq := by simp only [ep]
      try (conv => whnf)
      repeat' (first
       | (refine Pick.mk ?_ ?_ ?_; rotate_left; (focus (first | exact List.length_map _ | (refine pick_nat _ _ _ ?_; omega))); conv => whnf)
       | (refine SeqJ.thru ?_; conv => whnf)
       | (refine br_dec (fun _ => ?_) (fun _ => ?_) <;> first | (exfalso; omega) | contradiction | conv => whnf)
       | (refine br_not ?_; conv => whnf)
       | (refine br_bne (fun _ => ?_) (fun _ => ?_) <;> first | (exfalso; omega) | contradiction | conv => whnf)
       | (refine br_beq (fun _ => ?_) (fun _ => ?_) <;> first | (exfalso; omega) | contradiction | conv => whnf))
      refine Hand.mk [] ?_
      try (conv => whnf)
      refine CallW.d (s_l08OpOK l[i] hk ht) ?_
      try (conv => whnf)
      try (conv => whnf)
      repeat' (first
       | (refine Pick.mk ?_ ?_ ?_; rotate_left; (focus (first | (refine wid ?_ ?_ <;> omega) | (refine pick_nat _ _ _ ?_; omega) | (refine pick_int _ _ _ ?_ ?_ <;> omega))); conv => whnf)
       | (refine br_dec (fun _ => ?_) (fun _ => ?_) <;> first | (exfalso; omega) | contradiction | conv => whnf)
       | (refine br_not ?_; conv => whnf)
       | (refine br_bne (fun _ => ?_) (fun _ => ?_) <;> first | (exfalso; omega) | contradiction | conv => whnf)
       | (refine br_beq (fun _ => ?_) (fun _ => ?_) <;> first | (exfalso; omega) | contradiction | conv => whnf))
      all_goals
       first
        |skip
         have hst := (seqStep hlt hg).2 (by omega)
         refine Pick.mk (i + 1) ⟨⟨by omega, Good1.step hlt hg hok hst.1 hst.2⟩, by omega⟩ (LeX.of ?_)
         try (conv => whnf)
         repeat (refine Need.mk ?_ ?_; (focus (first | omega | (simp; done))); conv => whnf)
         trivial
        |skip
         refine Out.mk true [] [] ?_
         try (conv => whnf)
         exact ⟨dec_f fun h => by have := (seqStep hlt hg).1 ⟨(h.good.at hlt).2.1, (h.good.at hlt).2.2⟩; omega, rfl⟩
    ·try (conv => whnf)
     repeat' (first
      | (refine Pick.mk ?_ ?_ ?_; rotate_left; (focus (first | exact List.length_map _ | (refine pick_nat _ _ _ ?_; omega))); conv => whnf)
      | (refine SeqJ.thru ?_; conv => whnf)
      | (refine br_dec (fun _ => ?_) (fun _ => ?_) <;> first | (exfalso; omega) | contradiction | conv => whnf)
      | (refine br_not ?_; conv => whnf)
      | (refine br_bne (fun _ => ?_) (fun _ => ?_) <;> first | (exfalso; omega) | contradiction | conv => whnf)
      | (refine br_beq (fun _ => ?_) (fun _ => ?_) <;> first | (exfalso; omega) | contradiction | conv => whnf))
     refine Hand.mk [] ?_
     try (conv => whnf)
     refine CallW.d (s_l08OpOK l[i] hk ht) ?_
     try (conv => whnf)
     try (conv => whnf)
     repeat' (first
      | (refine br_dec (fun _ => ?_) (fun _ => ?_) <;> first | (exfalso; omega) | contradiction | conv => whnf)
      | (refine br_not ?_; conv => whnf)
      | (refine br_bne (fun _ => ?_) (fun _ => ?_) <;> first | (exfalso; omega) | contradiction | conv => whnf)
      | (refine br_beq (fun _ => ?_) (fun _ => ?_) <;> first | (exfalso; omega) | contradiction | conv => whnf))
     refine Out.mk true [] [] ?_
     try (conv => whnf)
     exact ⟨dec_f fun h => hok (h.good.at hlt).1, rfl⟩
   ·have hgl : Good1 l l.length := by
     have e9 : i = l.length := by omega
     rwa [e9] at hg
    try (conv => whnf)
    repeat' (first
     | (refine Pick.mk ?_ ?_ ?_; rotate_left; (focus (exact List.length_map _)); conv => whnf)
     | (refine SeqJ.thru ?_; conv => whnf)
     | (refine br_dec (fun _ => ?_) (fun _ => ?_) <;> first | (exfalso; omega) | contradiction | conv => whnf)
     | (refine br_not ?_; conv => whnf)
     | (refine br_bne (fun _ => ?_) (fun _ => ?_) <;> first | (exfalso; omega) | contradiction | conv => whnf)
     | (refine br_beq (fun _ => ?_) (fun _ => ?_) <;> first | (exfalso; omega) | contradiction | conv => whnf))
    refine Hand.mk [] ?_
    try (conv => whnf)
    refine CallW.d (s_l08Counts l (fun o ho => (hgl.all o ho).st.2) (by omega)) ?_
    try (conv => whnf)
    repeat (first
     | (refine Need.mk ?_ ?_; (focus (omega)); conv => whnf)
     | (refine Pick.mk ?_ ?_ ?_; rotate_left; (focus (first | (simp only [List.length_map, List.length_append, List.length_cons, List.length_nil, List.length_replicate, Nat.zero_add]; rfl) | exact natlit _)); conv => whnf))
    refine LoopE.mk (fun i : Nat => mk [(0, vL l), (7, vI .i64 i), (5, .one (.ptr 49184 0)), (6, .one (.os (.v 53248) 1 0 101))] [(49184, .box [.os (.v 49168) 1 0 16]), (49168, .own 1 ((cnts l).map inD)), (53248, .own 1 ((kdOf thS (l.take i)).map inD))])
     (fun i => i ≤ l.length ∧ SameTh thS (l.take i) ∧ ∀ o ∈ l.take i, Cause l o) (fun i => l.length - i) 0 ⟨by omega, fun a ha => by simp at ha, by simp⟩ (LeX.of ?_) ?_
    ·try (conv => whnf)
     repeat (refine Need.mk ?_ ?_; (focus (first | omega | (simp; done) | rfl)); conv => whnf)
     trivial
    ·rintro i ⟨hi, hs, hc⟩
     by_cases hlt : i < l.length
     ·have hok := (hgl.at hlt).1
      have hob := hok.obj
      have hcl := cnts_length l
      have hkl := kdOf_length thS (l.take i)
      have e5 : (kdOf thS (l.take i)).getD l[i].obj.toNat 0 = (kdOf thS (l.take i))[l[i].obj.toNat] := by simp [List.getD, show l[i].obj.toNat < 101 by omega]
      have hki := kd_iff (fun k => thS_ne) (fun o ho => hgl.all o (List.mem_of_mem_take ho)) hs hok
      rw [e5] at hki
      by_cases hca : Cause l l[i]
      ·try (conv => whnf)
       repeat' (first
        | (refine Pick.mk ?_ ?_ ?_; rotate_left; (focus (first | exact List.length_map _ | (refine pick_nat _ _ _ ?_; omega))); conv => whnf)
        | (refine SeqJ.thru ?_; conv => whnf)
        | (refine br_dec (fun _ => ?_) (fun _ => ?_) <;> first | (exfalso; omega) | contradiction | conv => whnf)
        | (refine br_not ?_; conv => whnf)
        | (refine br_bne (fun _ => ?_) (fun _ => ?_) <;> first | (exfalso; omega) | contradiction | conv => whnf)
        | (refine br_beq (fun _ => ?_) (fun _ => ?_) <;> first | (exfalso; omega) | contradiction | conv => whnf))
       refine Hand.mk [] ?_
       try (conv => whnf)
       repeat (refine Pick.mk ?_ ?_ ?_; rotate_left; (focus ((refine SlF.self _ _ ?_ ?_; (first | rfl | omega | (simp; done) | (simp; omega)); (exact fun _ => rfl)))); conv => whnf)
       refine CallW.d (s_l08Causes l l[i] hgl hok (by omega)) ?_
       try (conv => whnf)
       try (conv => whnf)
       repeat' (first
        | (refine Pick.mk ?_ ?_ ?_; rotate_left; (focus ((refine pick_nat _ _ _ ?_; omega))); conv => whnf)
        | (refine br_dec (fun _ => ?_) (fun _ => ?_) <;> first | (exfalso; omega) | contradiction | conv => whnf)
        | (refine br_not ?_; conv => whnf)
        | (refine br_bne (fun _ => ?_) (fun _ => ?_) <;> first | (exfalso; omega) | contradiction | conv => whnf)
        | (refine br_beq (fun _ => ?_) (fun _ => ?_) <;> first | (exfalso; omega) | contradiction | conv => whnf))
       refine Hand.mk [] ?_
       try (conv => whnf)
       refine CallW.d (s_l08Thing l[i].kind) ?_
       try (conv => whnf)
       repeat (first
        | (refine Need.mk ?_ ?_; (focus (omega)); conv => whnf)
        | (refine Pick.mk ?_ ?_ ?_; rotate_left; (focus (first | (with_reducible refine get_mapI _ _ _ ?_ ?_ <;> first | omega | (simp; omega)) | (refine pick_nat _ _ _ ?_; omega))); conv => whnf)
        | (refine SeqJ.thru ?_; conv => whnf))
       try (conv => whnf)
       repeat' (first
        | (refine Need.mk ?_ ?_; (focus (first | omega | (simp only [List.length_map, List.length_append, List.length_cons, List.length_nil, List.length_replicate]; omega))); conv => whnf)
        | (refine Pick.mk ?_ ?_ ?_; rotate_left; (focus (first | with_reducible exact set_inI _ _ _ _ | (with_reducible refine get_mapI _ _ _ ?_ ?_ <;> first | omega | (simp; omega)) | (refine wid ?_ ?_ <;> omega) | (refine pick_nat _ _ _ ?_; omega))); conv => whnf)
        | (refine br_dec (fun _ => ?_) (fun _ => ?_) <;> first | (exfalso; omega) | contradiction | conv => whnf)
        | (refine br_not ?_; conv => whnf)
        | (refine br_bne (fun _ => ?_) (fun _ => ?_) <;> first | (exfalso; omega) | contradiction | conv => whnf)
        | (refine br_beq (fun _ => ?_) (fun _ => ?_) <;> first | (exfalso; omega) | contradiction | conv => whnf))
       ·have hsm := hki.1 (by omega)
        refine Pick.mk (i + 1) ⟨⟨by omega, by rw [List.take_succ_eq_append_getElem hlt]; exact hs.snoc hsm, all_next hlt hc hca⟩, by omega⟩ (LeX.of ?_)
        try (conv => whnf)
        repeat (refine Need.mk ?_ ?_; (focus (first | omega | (simp; done))); conv => whnf)
        refine Need.mk (by rw [List.take_succ_eq_append_getElem hlt, kdOf_snoc]) ?_
        try (conv => whnf)
        trivial
       ·have hsm := hki.1 (by omega)
        refine Pick.mk (i + 1) ⟨⟨by omega, by rw [List.take_succ_eq_append_getElem hlt]; exact hs.snoc hsm, all_next hlt hc hca⟩, by omega⟩ (LeX.of ?_)
        try (conv => whnf)
        repeat (refine Need.mk ?_ ?_; (focus (first | omega | (simp; done))); conv => whnf)
        refine Need.mk (by rw [List.take_succ_eq_append_getElem hlt, kdOf_snoc]) ?_
        try (conv => whnf)
        trivial
       ·refine Out.mk true [] [] ?_
        try (conv => whnf)
        exact ⟨dec_f fun h => by
         have := hki.2 (SameTh.of_snoc (((SameTh.iff hgl.all).1 h.same).sub (m := l.take i ++ [l[i]]) (fun o ho => by rw [← List.take_succ_eq_append_getElem hlt] at ho; exact List.mem_of_mem_take ho)))
         omega, rfl⟩
      ·try (conv => whnf)
       repeat' (first
        | (refine Pick.mk ?_ ?_ ?_; rotate_left; (focus (first | exact List.length_map _ | (refine pick_nat _ _ _ ?_; omega))); conv => whnf)
        | (refine SeqJ.thru ?_; conv => whnf)
        | (refine br_dec (fun _ => ?_) (fun _ => ?_) <;> first | (exfalso; omega) | contradiction | conv => whnf)
        | (refine br_not ?_; conv => whnf)
        | (refine br_bne (fun _ => ?_) (fun _ => ?_) <;> first | (exfalso; omega) | contradiction | conv => whnf)
        | (refine br_beq (fun _ => ?_) (fun _ => ?_) <;> first | (exfalso; omega) | contradiction | conv => whnf))
       refine Hand.mk [] ?_
       try (conv => whnf)
       repeat (refine Pick.mk ?_ ?_ ?_; rotate_left; (focus ((refine SlF.self _ _ ?_ ?_; (first | rfl | omega | (simp; done) | (simp; omega)); (exact fun _ => rfl)))); conv => whnf)
       refine CallW.d (s_l08Causes l l[i] hgl hok (by omega)) ?_
       try (conv => whnf)
       try (conv => whnf)
       repeat' (first
        | (refine br_dec (fun _ => ?_) (fun _ => ?_) <;> first | (exfalso; omega) | contradiction | conv => whnf)
        | (refine br_not ?_; conv => whnf)
        | (refine br_bne (fun _ => ?_) (fun _ => ?_) <;> first | (exfalso; omega) | contradiction | conv => whnf)
        | (refine br_beq (fun _ => ?_) (fun _ => ?_) <;> first | (exfalso; omega) | contradiction | conv => whnf))
       refine Out.mk true [] [] ?_
       try (conv => whnf)
       exact ⟨dec_f fun h => hca (h.cause _ (List.getElem_mem hlt)), rfl⟩
     ·try (conv => whnf)
      repeat' (first
       | (refine Pick.mk ?_ ?_ ?_; rotate_left; (focus (exact List.length_map _)); conv => whnf)
       | (refine SeqJ.thru ?_; conv => whnf)
       | (refine br_dec (fun _ => ?_) (fun _ => ?_) <;> first | (exfalso; omega) | contradiction | conv => whnf)
       | (refine br_not ?_; conv => whnf)
       | (refine br_bne (fun _ => ?_) (fun _ => ?_) <;> first | (exfalso; omega) | contradiction | conv => whnf)
       | (refine br_beq (fun _ => ?_) (fun _ => ?_) <;> first | (exfalso; omega) | contradiction | conv => whnf))
      refine Out.mk true [] [] ?_
      try (conv => whnf)
      rw [List.take_of_length_le (by omega)] at hs hc
      exact ⟨dec_t ⟨by omega, hgl, (SameTh.iff hgl.all).2 hs, hc⟩, rfl⟩
end Go.Proofs.Ytpdjehnlejjfmaa.D
/- Trees of sums over an actor's operations, by the reference. -/
namespace Go.Proofs.Ytpdjehnlejjfmaa.D
open Go.RowKit
set_option maxRecDepth 100000
set_option maxHeartbeats 40000000
set_option linter.unusedVariables false
set_option linter.unusedSimpArgs false

abbrev hs0 (l : List UInt8) : Nat := sumH 2166136261 l
def opS (o : OpV) : List UInt8 := four (hs0 (opB o))
def lfB (o : List OpV) (f j : Nat) : List UInt8 := (((o.drop f).take j).map opS).flatten
theorem lfB_zero (o : List OpV) (f : Nat) : lfB o f 0 = [] := by simp [lfB]
theorem lfB_succ {o : List OpV} {f j : Nat} (h : f + j < o.length) : lfB o f (j + 1) = lfB o f j ++ opS (o[f + j]) := by
 unfold lfB
 rw [List.take_succ_eq_append_getElem (by simp; omega)]
 simp
theorem lfB_end {o : List OpV} {f j : Nat} (h : o.length ≤ f + j) (hj : j ≤ 4) : lfB o f j = lfB o f 4 := by
 unfold lfB
 rw [List.take_of_length_le (by simp; omega), List.take_of_length_le (by simp; omega)]
theorem lfB_len (o : List OpV) (f j : Nat) : (lfB o f j).length ≤ 4 * j := by
 unfold lfB
 have : ∀ l : List OpV, ((l.map opS).flatten).length = 4 * l.length := fun l => by
  induction l with
  | nil => simp
  | cons a l ih => simp only [List.map_cons, List.flatten_cons, List.length_append, List.length_cons, ih, opS, four_length]; omega
 rw [this]
 simp; omega
theorem lfB_pos {o : List OpV} {f j : Nat} (h : f < o.length) (hj : 0 < j) : 0 < (lfB o f j).length := by
 obtain ⟨i, rfl⟩ : ∃ i, j = i + 1 := ⟨j - 1, by omega⟩
 unfold lfB
 rw [List.drop_eq_getElem_cons h, List.take_succ_cons]
 simp only [List.map_cons, List.flatten_cons, List.length_append, opS, four_length]
 omega
theorem lfB_none {o : List OpV} {f j : Nat} (h : o.length ≤ f) : lfB o f j = [] := by
 unfold lfB
 rw [List.drop_of_length_le h]; simp
def nodeN (o : List OpV) : Nat → Nat → Nat
 | 0, p => if lfB o (4 * p) 4 = [] then 0 else hs0 (lfB o (4 * p) 4)
 | k + 1, p => if nodeN o k (2 * p) = 0 ∧ nodeN o k (2 * p + 1) = 0 then 0 else hs0 (four (nodeN o k (2 * p)) ++ four (nodeN o k (2 * p + 1)))
theorem nodeN_lt (o : List OpV) (k p : Nat) : nodeN o k p < 4294967296 := by
 cases k with
 | zero => rw [nodeN]; split; omega; exact sumH_lt (by omega) _
 | succ k => rw [nodeN]; split; omega; exact sumH_lt (by omega) _
theorem nodeN_none (o : List OpV) : ∀ (k p : Nat), o.length ≤ 4 * (p * 2 ^ k) → nodeN o k p = 0
 | 0, p, h => by rw [nodeN, if_pos (lfB_none (by simpa using h))]
 |k + 1, p, h => by
  have e : p * 2 ^ (k + 1) = (2 * p) * 2 ^ k := by rw [Nat.pow_succ, Nat.mul_comm (2 ^ k) 2, ← Nat.mul_assoc, Nat.mul_comm p 2]
  have e2 : (2 * p + 1) * 2 ^ k = (2 * p) * 2 ^ k + 2 ^ k := by rw [Nat.add_mul, Nat.one_mul]
  rw [nodeN, nodeN_none o k (2 * p) (by rw [← e]; exact h), nodeN_none o k (2 * p + 1) (by rw [e2]; exact Nat.le_trans (by rw [← e]; exact h) (Nat.mul_le_mul_left 4 (Nat.le_add_right _ _))), if_pos ⟨rfl, rfl⟩]
theorem s_l12Power (n : Nat) (hn : n ≤ 40) : CallD Try.prog id_spec_l12Power [vI .i64 n] [] (vI .i64 ((2 ^ n : Nat) : Int)) [] := by
 refine F_spec_l12Power ?_
 try (conv => whnf)
 repeat (refine SeqJ.thru ?_; conv => whnf)
 refine LoopE.mk (fun x : Nat × Nat => mk [(0, vI .i64 x.1), (3, vI .i64 x.2)] []) (fun x => x.1 ≤ n ∧ x.2 * 2 ^ x.1 = 2 ^ n ∧ x.2 ≤ 2 ^ 40) (fun x => x.1) (n, 1) ⟨by simp, by simp, by simp⟩ (LeX.of ?_) ?_
 ·try (conv => whnf)
  repeat (refine Need.mk ?_ ?_; (focus (omega)); conv => whnf)
  trivial
 ·rintro ⟨i, m⟩ ⟨hi, hm, hml⟩
  dsimp only at hi hm hml ⊢
  rcases Nat.eq_zero_or_pos i with h0 | h0
  ·subst h0
   try (conv => whnf)
   repeat' (first
    | (refine SeqJ.thru ?_; conv => whnf)
    | (refine br_dec (fun _ => ?_) (fun _ => ?_) <;> first | (exfalso; omega) | contradiction | conv => whnf)
    | (refine br_not ?_; conv => whnf)
    | (refine br_bne (fun _ => ?_) (fun _ => ?_) <;> first | (exfalso; omega) | contradiction | conv => whnf)
    | (refine br_beq (fun _ => ?_) (fun _ => ?_) <;> first | (exfalso; omega) | contradiction | conv => whnf))
   refine Out.mk true [] [] ?_
   try (conv => whnf)
   exact ⟨by rw [← hm]; simp, rfl⟩
  ·obtain ⟨j, rfl⟩ : ∃ j, i = j + 1 := ⟨i - 1, by omega⟩
   have hm2 : (2 * m) * 2 ^ j = 2 ^ n := by rw [← hm, Nat.pow_succ, Nat.mul_comm (2 ^ j) 2, ← Nat.mul_assoc, Nat.mul_comm m 2]
   have hle : 2 * m ≤ 2 ^ 40 := by
    have h1 : 1 ≤ 2 ^ j := Nat.one_le_two_pow
    have h2 : 2 ^ n ≤ 2 ^ 40 := Nat.pow_le_pow_right (by omega) hn
    have h3 : 2 * m * 1 ≤ 2 * m * 2 ^ j := Nat.mul_le_mul_left _ h1
    omega
   try (conv => whnf)
   repeat' (first
    | (refine Pick.mk ?_ ?_ ?_; rotate_left; (focus ((refine wid ?_ ?_ <;> omega))); conv => whnf)
    | (refine SeqJ.thru ?_; conv => whnf)
    | (refine br_dec (fun _ => ?_) (fun _ => ?_) <;> first | (exfalso; omega) | contradiction | conv => whnf)
    | (refine br_not ?_; conv => whnf)
    | (refine br_bne (fun _ => ?_) (fun _ => ?_) <;> first | (exfalso; omega) | contradiction | conv => whnf)
    | (refine br_beq (fun _ => ?_) (fun _ => ?_) <;> first | (exfalso; omega) | contradiction | conv => whnf))
   refine Pick.mk (j, 2 * m) ⟨⟨by dsimp only; omega, hm2, hle⟩, by dsimp only; omega⟩ (LeX.of ?_)
   try (conv => whnf)
   repeat (refine Need.mk ?_ ?_; (focus (omega)); conv => whnf)
   trivial
theorem s_l12Own (l : List OpV) (a : Int) (hl : l.length ≤ 2 ^ 20) : CallN Try.prog id_spec_l12Own [vL l, vI .i64 a] [] [] (vL (own l a)) [] := by
 refine F_spec_l12Own ?_
 try (conv => whnf)
 repeat (refine Pick.mk ?_ ?_ ?_; rotate_left; (focus ((simp only [chunks]; rfl))); conv => whnf)
 refine LoopE.mk (fun x : Nat × List OpV => mk [(0, vL l), (1, vI .i64 a), (5, .one (.os (.v 8192) 12 0 x.2.length)), (6, vI .i64 x.1)] [(8192, .own 12 (x.2.map oD))]) (fun x => x.1 ≤ l.length ∧ x.2 = own (l.take x.1) a ∧ x.2.length ≤ x.1) (fun x => l.length - x.1) (0, []) ⟨by simp, by simp [own], by simp⟩ (LeX.of ?_) ?_
 ·try (conv => whnf)
  repeat (refine Need.mk ?_ ?_; (focus (first | omega | (simp; done))); conv => whnf)
  trivial
 ·rintro ⟨i, m⟩ ⟨hi, hm, hml⟩
  dsimp only at hi hm hml ⊢
  rcases Nat.lt_or_ge i l.length with hlt | hge
  ·have ht := own_take hlt a
   by_cases ha : l[i].actor = a
   ·rw [if_pos ha, ← hm] at ht
    try (conv => whnf)
    repeat' (first
     | (refine Need.mk ?_ ?_; (focus ((simp only [List.length_map, List.length_append, List.length_cons, List.length_nil, List.length_replicate]; omega))); conv => whnf)
     | (refine Pick.mk ?_ ?_ ?_; rotate_left; (focus (first | exact List.length_map _ | (simp only [List.length_map, List.length_append, List.length_cons, List.length_nil, List.length_replicate, Nat.zero_add]; rfl) | (simp only [chunks]; rfl) | (refine wid ?_ ?_ <;> omega) | (refine pick_nat _ _ _ ?_; omega) | (refine SlOf.full ?_; first | (simp; done) | (simp; omega)) | ((fail_if_success (show @Eq (Option _) _ _)); rfl))); conv => whnf)
     | (refine SeqJ.thru ?_; conv => whnf)
     | (refine br_dec (fun _ => ?_) (fun _ => ?_) <;> first | (exfalso; omega) | contradiction | conv => whnf)
     | (refine br_not ?_; conv => whnf)
     | (refine br_bne (fun _ => ?_) (fun _ => ?_) <;> first | (exfalso; omega) | contradiction | conv => whnf)
     | (refine br_beq (fun _ => ?_) (fun _ => ?_) <;> first | (exfalso; omega) | contradiction | conv => whnf))
    refine Pick.mk (i + 1, m ++ [l[i]]) ⟨⟨by dsimp only; omega, ht.symm, by simp; omega⟩, by dsimp only; omega⟩ (LeX.of ?_)
    try (conv => whnf)
    repeat (refine Need.mk ?_ ?_; (focus (first | omega | (simp; done))); conv => whnf)
    refine Need.mk (by rw [List.map_append]; rfl) ?_
    try (conv => whnf)
    trivial
   ·rw [if_neg ha, List.append_nil, ← hm] at ht
    try (conv => whnf)
    repeat' (first
     | (refine Pick.mk ?_ ?_ ?_; rotate_left; (focus (first | exact List.length_map _ | (refine wid ?_ ?_ <;> omega) | (refine pick_nat _ _ _ ?_; omega))); conv => whnf)
     | (refine SeqJ.thru ?_; conv => whnf)
     | (refine br_dec (fun _ => ?_) (fun _ => ?_) <;> first | (exfalso; omega) | contradiction | conv => whnf)
     | (refine br_not ?_; conv => whnf)
     | (refine br_bne (fun _ => ?_) (fun _ => ?_) <;> first | (exfalso; omega) | contradiction | conv => whnf)
     | (refine br_beq (fun _ => ?_) (fun _ => ?_) <;> first | (exfalso; omega) | contradiction | conv => whnf))
    refine Pick.mk (i + 1, m) ⟨⟨by dsimp only; omega, ht.symm, by dsimp only; omega⟩, by dsimp only; omega⟩ (LeX.of ?_)
    try (conv => whnf)
    repeat (refine Need.mk ?_ ?_; (focus (first | omega | (simp; done))); conv => whnf)
    trivial
  ·rw [List.take_of_length_le hge] at hm
   try (conv => whnf)
   repeat' (first
    | (refine Pick.mk ?_ ?_ ?_; rotate_left; (focus (exact List.length_map _)); conv => whnf)
    | (refine SeqJ.thru ?_; conv => whnf)
    | (refine br_dec (fun _ => ?_) (fun _ => ?_) <;> first | (exfalso; omega) | contradiction | conv => whnf)
    | (refine br_not ?_; conv => whnf)
    | (refine br_bne (fun _ => ?_) (fun _ => ?_) <;> first | (exfalso; omega) | contradiction | conv => whnf)
    | (refine br_beq (fun _ => ?_) (fun _ => ?_) <;> first | (exfalso; omega) | contradiction | conv => whnf))
   refine Out.mk true [] [] ?_
   try (conv => whnf)
   repeat (refine Pick.mk ?_ ?_ ?_; rotate_left; (focus ((refine SlF.self _ _ ?_ ?_; (first | rfl | omega | (simp; done) | (simp; omega)); (exact fun _ => rfl)))); conv => whnf)
   exact ⟨by rw [hm], rfl⟩
theorem s_l12Node (o : List OpV) (hl : o.length ≤ 2 ^ 20) (ho : ∀ x ∈ o, OpOk x) : ∀ (k p : Nat), k ≤ 8 → p * 2 ^ k < 256 → CallD Try.prog id_spec_l12Node [vL o, vI .i64 k, vI .i64 p] [] (vI .i64 (nodeN o k p)) []
 |0, p, hk, hp => by
  have hp : p < 256 := by simpa using hp
  refine F_spec_l12Node ?_
  have c0 : CallD Try.prog id_spec_l12Power [vI .i64 0] [] (vI .i64 1) [] := s_l12Power 0 (by omega)
  try (conv => whnf)
  repeat (refine Pick.mk ?_ ?_ ?_; rotate_left; (focus ((refine wid ?_ ?_ <;> omega))); conv => whnf)
  refine Hand.mk [] ?_
  try (conv => whnf)
  refine CallW.d (c0) ?_
  try (conv => whnf)
  repeat (first
   | (refine Pick.mk ?_ ?_ ?_; rotate_left; (focus (first | exact List.length_map _ | (refine wid ?_ ?_ <;> omega))); conv => whnf)
   | (refine SeqJ.thru ?_; conv => whnf))
  rcases Nat.lt_or_ge (4 * p) o.length with hlt | hge
  rotate_left
  ·try (conv => whnf)
   repeat' (first
    | (refine br_dec (fun _ => ?_) (fun _ => ?_) <;> first | (exfalso; omega) | contradiction | conv => whnf)
    | (refine br_not ?_; conv => whnf)
    | (refine br_bne (fun _ => ?_) (fun _ => ?_) <;> first | (exfalso; omega) | contradiction | conv => whnf)
    | (refine br_beq (fun _ => ?_) (fun _ => ?_) <;> first | (exfalso; omega) | contradiction | conv => whnf))
   refine Out.mk true [] [] ?_
   try (conv => whnf)
   exact ⟨by rw [nodeN_none o 0 p (by simpa using hge)]; rfl, rfl⟩
  ·try (conv => whnf)
   repeat' (first
    | (refine Pick.mk ?_ ?_ ?_; rotate_left; (focus ((simp only [chunks]; rfl))); conv => whnf)
    | (refine SeqJ.thru ?_; conv => whnf)
    | (refine br_dec (fun _ => ?_) (fun _ => ?_) <;> first | (exfalso; omega) | contradiction | conv => whnf)
    | (refine br_not ?_; conv => whnf)
    | (refine br_bne (fun _ => ?_) (fun _ => ?_) <;> first | (exfalso; omega) | contradiction | conv => whnf)
    | (refine br_beq (fun _ => ?_) (fun _ => ?_) <;> first | (exfalso; omega) | contradiction | conv => whnf))
   refine LoopE.mk (fun j : Nat => mk [(0, vL o), (7, vI .i64 ((4 * p : Nat) : Int)), (8, .one (.os (.v 20480) 1 0 (lfB o (4 * p) j).length)), (9, vI .i64 ((4 * p + j : Nat) : Int))] [(20480, .own 1 ((lfB o (4 * p) j).map byD))]) (fun j => j ≤ 4) (fun j => 4 - j) 0 (by omega) (LeX.of ?_) ?_
   ·try (conv => whnf)
    repeat (refine Need.mk ?_ ?_; (focus (first | omega | (simp; done) | rfl | (simp [lfB_zero]; done))); conv => whnf)
    trivial
   ·intro j hj
    have hbl := lfB_len o (4 * p) j
    by_cases hj4 : j < 4 ∧ 4 * p + j < o.length
    ·have hoj := ho (o[4 * p + j]'hj4.2) (List.getElem_mem _)
     have hob := opB_len hoj
     have hst := lfB_succ (o := o) (f := 4 * p) (j := j) hj4.2
     have hsl := sumH_lt (h := 2166136261) (by omega) (opB (o[4 * p + j]'hj4.2))
     have cb := s_l12Bytes (o[4 * p + j]'hj4.2) hoj
     obtain ⟨B, hB⟩ : ∃ B, B = opB (o[4 * p + j]'hj4.2) := ⟨_, rfl⟩
     rw [← hB] at cb hob hsl
     try (conv => whnf)
     repeat' (first
      | (refine Pick.mk ?_ ?_ ?_; rotate_left; (focus (first | exact List.length_map _ | (refine wid ?_ ?_ <;> omega) | (refine pick_nat _ _ _ ?_; omega))); conv => whnf)
      | (refine SeqJ.thru ?_; conv => whnf)
      | (refine br_dec (fun _ => ?_) (fun _ => ?_) <;> first | (exfalso; omega) | contradiction | conv => whnf)
      | (refine br_not ?_; conv => whnf)
      | (refine br_bne (fun _ => ?_) (fun _ => ?_) <;> first | (exfalso; omega) | contradiction | conv => whnf)
      | (refine br_beq (fun _ => ?_) (fun _ => ?_) <;> first | (exfalso; omega) | contradiction | conv => whnf))
     refine Hand.mk [] ?_
     try (conv => whnf)
     refine CallW.d (cb) ?_
     try (conv => whnf)
     refine Hand.mk [] ?_
     try (conv => whnf)
     repeat (refine Pick.mk ?_ ?_ ?_; rotate_left; (focus ((refine SlF.self _ _ ?_ ?_; (first | rfl | omega | (simp; done) | (simp; omega)); (exact fun _ => rfl)))); conv => whnf)
     refine CallW.d (s_Sum32 B (by omega)) ?_
     try (conv => whnf)
     refine Hand.mk [] ?_
     try (conv => whnf)
     refine CallW.d (s_l01Four (sumH 2166136261 B) (by omega) (by omega)) ?_
     try (conv => whnf)
     repeat (first
      | (refine Need.mk ?_ ?_; (focus (first | (simp; omega) | rfl)); conv => whnf)
      | (refine Pick.mk ?_ ?_ ?_; rotate_left; (focus (first | (simp only [List.length_map, List.length_append, List.length_cons, List.length_nil, List.length_replicate, Nat.zero_add]; rfl) | with_reducible exact map_app _ _ _ | (refine wid ?_ ?_ <;> omega) | (refine SlOf.full ?_; first | (simp; done) | (simp; omega)))); conv => whnf))
     refine Pick.mk (j + 1) (by constructor <;> first | omega | (simp only []; omega)) (LeX.of ?_)
     try (conv => whnf)
     repeat (refine Need.mk ?_ ?_; (focus (first | omega | (simp; done))); conv => whnf)
     refine Need.mk ⟨rfl, by rw [hst, List.length_append, opS, hB]⟩ ?_
     try (conv => whnf)
     repeat (refine Need.mk ?_ ?_; (focus (omega)); conv => whnf)
     refine Need.mk (by rw [hst, opS, hB]) ?_
     try (conv => whnf)
     trivial
    ·have hend : lfB o (4 * p) j = lfB o (4 * p) 4 := by
      by_cases h4 : j = 4
      ·rw [h4]
      ·exact lfB_end (by omega) hj
     have hne : lfB o (4 * p) 4 ≠ [] := fun h => by have := lfB_pos (o := o) (f := 4 * p) (j := 4) hlt (by omega); rw [h] at this; simp at this
     have hres : nodeN o 0 p = sumH 2166136261 (lfB o (4 * p) j) := by rw [nodeN, if_neg hne, hend]
     generalize lfB o (4 * p) j = B at *
     try (conv => whnf)
     repeat' (first
      | (refine Pick.mk ?_ ?_ ?_; rotate_left; (focus (first | exact List.length_map _ | (refine wid ?_ ?_ <;> omega))); conv => whnf)
      | (refine SeqJ.thru ?_; conv => whnf)
      | (refine br_dec (fun _ => ?_) (fun _ => ?_) <;> first | (exfalso; omega) | contradiction | conv => whnf)
      | (refine br_not ?_; conv => whnf)
      | (refine br_bne (fun _ => ?_) (fun _ => ?_) <;> first | (exfalso; omega) | contradiction | conv => whnf)
      | (refine br_beq (fun _ => ?_) (fun _ => ?_) <;> first | (exfalso; omega) | contradiction | conv => whnf))
     all_goals
      refine Hand.mk [] ?_
      try (conv => whnf)
      repeat (refine Pick.mk ?_ ?_ ?_; rotate_left; (focus ((refine SlF.self _ _ ?_ ?_; (first | rfl | omega | (simp; done) | (simp; omega)); (exact fun _ => rfl)))); conv => whnf)
      refine CallW.d (s_Sum32 B (by omega)) ?_
      try (conv => whnf)
      refine Out.mk true [] [] ?_
      try (conv => whnf)
      exact ⟨by rw [hres], rfl⟩
 |k + 1, p, hk, hp => by
  refine F_spec_l12Node ?_
  have c0 := s_l12Power (k + 1) (by omega)
  have hP1 : 1 ≤ 2 ^ (k + 1) := Nat.one_le_two_pow
  have hP2 : 2 ^ (k + 1) ≤ 2 ^ 8 := Nat.pow_le_pow_right (by omega) hk
  have hn0 := nodeN_none o (k + 1) p
  have e1 : (2 * p) * 2 ^ k = p * 2 ^ (k + 1) := by rw [Nat.pow_succ, Nat.mul_comm (2 ^ k) 2, ← Nat.mul_assoc, Nat.mul_comm p 2]
  have hPk : 2 ^ (k + 1) = 2 * 2 ^ k := by rw [Nat.pow_succ, Nat.mul_comm]
  have i1 := s_l12Node o hl ho k (2 * p) (by omega) (by rw [e1]; exact hp)
  have i2 := s_l12Node o hl ho k (2 * p + 1) (by omega) (by
   rw [Nat.add_mul, e1, Nat.one_mul]
   rw [hPk] at hp ⊢
   have h3 : p * (2 * 2 ^ k) + 2 ^ k < p * (2 * 2 ^ k) + 2 * 2 ^ k := by have := Nat.one_le_two_pow (n := k); omega
   have h4 : ∃ m, p * (2 * 2 ^ k) + 2 * 2 ^ k = (p + 1) * (2 * 2 ^ k) := ⟨0, by rw [Nat.add_mul, Nat.one_mul]⟩
   obtain ⟨_, h4⟩ := h4
   have h5 : (p + 1) * 2 ^ (k + 1) ≤ 256 := by
    rw [← hPk] at hp
    have h6 : 256 = 2 ^ (8 - (k + 1)) * 2 ^ (k + 1) := by rw [← Nat.pow_add, show 8 - (k + 1) + (k + 1) = 8 by omega]
    rw [h6] at hp ⊢
    exact Nat.mul_le_mul_right _ (Nat.lt_of_mul_lt_mul_right hp)
   rw [hPk] at h5
   omega)
  have hpb : p ≤ p * 2 ^ (k + 1) := Nat.le_mul_of_pos_right _ (by omega)
  clear e1 hPk
  obtain ⟨P, hP⟩ : ∃ P, P = 2 ^ (k + 1) := ⟨_, rfl⟩
  rw [← hP] at c0 hP1 hP2 hn0 hp hpb
  obtain ⟨F, hF⟩ : ∃ F, F = p * P := ⟨_, rfl⟩
  rw [← hF] at hn0 hp hpb
  have hw : IntKind.i64.wrap ((p : Int) * 4 * (P : Int)) = ((4 * F : Nat) : Int) := by
   have : (p : Int) * 4 * (P : Int) = ((4 * F : Nat) : Int) := by rw [hF]; push_cast; rw [Int.mul_comm (p : Int) 4, Int.mul_assoc]
   rw [this]; exact wid (by omega) (by omega)
  have r1 := nodeN_lt o k (2 * p)
  have r2 := nodeN_lt o k (2 * p + 1)
  have hres : nodeN o (k + 1) p = if nodeN o k (2 * p) = 0 ∧ nodeN o k (2 * p + 1) = 0 then 0 else hs0 (four (nodeN o k (2 * p)) ++ four (nodeN o k (2 * p + 1))) := by rw [nodeN]
  generalize nodeN o k (2 * p) = X at *
  generalize nodeN o k (2 * p + 1) = Y at *
  clear hF hP
  rw [show ((k : Nat) : Int) = ((k + 1 : Nat) : Int) - 1 by omega, show ((2 * p : Nat) : Int) = 2 * (p : Int) by omega] at i1
  rw [show ((k : Nat) : Int) = ((k + 1 : Nat) : Int) - 1 by omega, show ((2 * p + 1 : Nat) : Int) = 2 * (p : Int) + 1 by omega] at i2
  try (conv => whnf)
  repeat (refine Pick.mk ?_ ?_ ?_; rotate_left; (focus ((refine wid ?_ ?_ <;> omega))); conv => whnf)
  refine Hand.mk [] ?_
  try (conv => whnf)
  refine CallW.d (c0) ?_
  try (conv => whnf)
  repeat (first
   | (refine Pick.mk ?_ ?_ ?_; rotate_left; (focus (first | with_reducible exact hw | exact List.length_map _)); conv => whnf)
   | (refine SeqJ.thru ?_; conv => whnf))
  by_cases hge : o.length ≤ 4 * F
  ·try (conv => whnf)
   repeat' (first
    | (refine br_dec (fun _ => ?_) (fun _ => ?_) <;> first | (exfalso; omega) | contradiction | conv => whnf)
    | (refine br_not ?_; conv => whnf)
    | (refine br_bne (fun _ => ?_) (fun _ => ?_) <;> first | (exfalso; omega) | contradiction | conv => whnf)
    | (refine br_beq (fun _ => ?_) (fun _ => ?_) <;> first | (exfalso; omega) | contradiction | conv => whnf))
   refine Out.mk true [] [] ?_
   try (conv => whnf)
   exact ⟨by rw [hn0 hge]; rfl, rfl⟩
  ·try (conv => whnf)
   repeat' (first
    | (refine Pick.mk ?_ ?_ ?_; rotate_left; (focus (first | (simp only [chunks]; rfl) | (refine wid ?_ ?_ <;> omega))); conv => whnf)
    | (refine SeqJ.thru ?_; conv => whnf)
    | (refine br_dec (fun _ => ?_) (fun _ => ?_) <;> first | (exfalso; omega) | contradiction | conv => whnf)
    | (refine br_not ?_; conv => whnf)
    | (refine br_bne (fun _ => ?_) (fun _ => ?_) <;> first | (exfalso; omega) | contradiction | conv => whnf)
    | (refine br_beq (fun _ => ?_) (fun _ => ?_) <;> first | (exfalso; omega) | contradiction | conv => whnf))
   refine Hand.mk [] ?_
   try (conv => whnf)
   refine CallW.d (i1) ?_
   try (conv => whnf)
   repeat (refine Pick.mk ?_ ?_ ?_; rotate_left; (focus ((refine wid ?_ ?_ <;> omega))); conv => whnf)
   refine Hand.mk [] ?_
   try (conv => whnf)
   refine CallW.d (i2) ?_
   try (conv => whnf)
   repeat (refine SeqJ.thru ?_; conv => whnf)
   by_cases hXY : X = 0 ∧ Y = 0
   ·rw [if_pos hXY] at hres
    try (conv => whnf)
    repeat' (first
     | (refine br_dec (fun _ => ?_) (fun _ => ?_) <;> first | (exfalso; omega) | contradiction | conv => whnf)
     | (refine br_not ?_; conv => whnf)
     | (refine br_bne (fun _ => ?_) (fun _ => ?_) <;> first | (exfalso; omega) | contradiction | conv => whnf)
     | (refine br_beq (fun _ => ?_) (fun _ => ?_) <;> first | (exfalso; omega) | contradiction | conv => whnf))
    refine Out.mk true [] [] ?_
    try (conv => whnf)
    exact ⟨by rw [hres]; rfl, rfl⟩
   ·rw [if_neg hXY] at hres
    try (conv => whnf)
    repeat' (first
     | (refine br_dec (fun _ => ?_) (fun _ => ?_) <;> first | (exfalso; omega) | contradiction | conv => whnf)
     | (refine br_not ?_; conv => whnf)
     | (refine br_bne (fun _ => ?_) (fun _ => ?_) <;> first | (exfalso; omega) | contradiction | conv => whnf)
     | (refine br_beq (fun _ => ?_) (fun _ => ?_) <;> first | (exfalso; omega) | contradiction | conv => whnf))
    all_goals
     refine Hand.mk [] ?_
     try (conv => whnf)
     refine CallW.d (s_l01Four X (by omega) (by omega)) ?_
     try (conv => whnf)
     refine Hand.mk [] ?_
     try (conv => whnf)
     refine CallW.d (s_l01Four Y (by omega) (by omega)) ?_
     try (conv => whnf)
     repeat (first
      | (refine Need.mk ?_ ?_; (focus (first | (simp; done) | rfl)); conv => whnf)
      | (refine Pick.mk ?_ ?_ ?_; rotate_left; (focus (first | (simp only [List.length_map, List.length_append, List.length_cons, List.length_nil, List.length_replicate, Nat.zero_add]; rfl) | with_reducible exact map_app _ _ _ | (refine SlOf.full ?_; first | (simp; done) | (simp; omega)))); conv => whnf))
     refine Hand.mk [] ?_
     try (conv => whnf)
     repeat (refine Pick.mk ?_ ?_ ?_; rotate_left; (focus ((refine SlF.self _ _ ?_ ?_; (first | rfl | omega | (simp; done) | (simp; omega)); (exact fun _ => rfl)))); conv => whnf)
     refine CallW.d (s_Sum32 (four X ++ four Y) (by simp)) ?_
     try (conv => whnf)
     refine Out.mk true [] [] ?_
     try (conv => whnf)
     exact ⟨by rw [hres], rfl⟩
theorem own_okA {l : List OpV} (h : ∀ o ∈ l, OpOk o) (a : Int) : ∀ o ∈ own l a, OpOk o := fun o ho => h o (List.mem_filter.1 ho).1
def trP (a k p : Int) : Prop := actOk a ∧ (0 ≤ k ∧ k ≤ 8) ∧ 0 ≤ p ∧ p < ((2 ^ (8 - k).toNat : Nat) : Int)
instance (a k p : Int) : Decidable (trP a k p) := by unfold trP; infer_instance
noncomputable def trC (l : List OpV) (a k p : Int) : Int := if LogOk l then (if trP a k p then 0 else 4) else 1
noncomputable def trV (l : List OpV) (a k p : Int) : Int := if trC l a k p = 0 then nodeN (own l a) k.toNat p.toNat else 0
noncomputable abbrev trR (l : List OpV) (a k p : Int) : SV := .tup [(false, [cI (trV l a k p)]), (false, [cI (trC l a k p)])]
theorem trErr {l : List OpV} {a k p c : Int} (hc : trC l a k p = c) (h0 : c ≠ 0) : SV.tup [(false, [cI 0]), (false, [cI c])] = trR l a k p := by
 subst hc
 rw [trR, trV, if_neg h0]
theorem trGood {l : List OpV} {a k p : Int} {v : Nat} (hc : trC l a k p = 0) (hv : nodeN (own l a) k.toNat p.toNat = v) : SV.tup [(false, [cI v]), (false, [cI 0])] = trR l a k p := by
 rw [trR, trV, if_pos hc, hc, hv]
theorem s_TreeSum (l : List OpV) (a k p : Int) (hw : ∀ o ∈ l, o.key.length ≤ 2 ^ 40 ∧ o.text.length ≤ 2 ^ 40) : CallD Try.prog id_spec_TreeSum [vL l, vI .i64 a, vI .i64 k, vI .i64 p] [] (trR l a k p) [] := by
 refine F_spec_TreeSum ?_
 have c1 := s_LogOK l hw
 by_cases h1 : LogOk l
 rotate_left
 ·have hc : trC l a k p = 1 := if_neg h1
  rw [decide_eq_false h1] at c1
  try (conv => whnf)
  repeat (refine SeqJ.thru ?_; conv => whnf)
  refine Hand.mk [] ?_
  try (conv => whnf)
  refine CallW.d (c1) ?_
  try (conv => whnf)
  try (conv => whnf)
  repeat' (first
   | (refine br_dec (fun _ => ?_) (fun _ => ?_) <;> first | (exfalso; omega) | contradiction | conv => whnf)
   | (refine br_not ?_; conv => whnf)
   | (refine br_bne (fun _ => ?_) (fun _ => ?_) <;> first | (exfalso; omega) | contradiction | conv => whnf)
   | (refine br_beq (fun _ => ?_) (fun _ => ?_) <;> first | (exfalso; omega) | contradiction | conv => whnf))
  refine Out.mk true [] [] ?_
  try (conv => whnf)
  exact ⟨trErr hc (by omega), rfl⟩
 rw [decide_eq_true h1] at c1
 have hbad : ¬ trP a k p → trC l a k p = 4 := fun h => by rw [trC, if_pos h1, if_neg h]
 by_cases h2 : actOk a ∧ (0 ≤ k ∧ k ≤ 8) ∧ 0 ≤ p
 rotate_left
 ·have hc := hbad fun h => h2 ⟨h.1, h.2.1, h.2.2.1⟩
  have hr := trErr hc (by omega)
  unfold actOk at h2
  try (conv => whnf)
  repeat (refine SeqJ.thru ?_; conv => whnf)
  refine Hand.mk [] ?_
  try (conv => whnf)
  refine CallW.d (c1) ?_
  try (conv => whnf)
  repeat (refine SeqJ.thru ?_; conv => whnf)
  try (conv => whnf)
  repeat' (first
   | (refine br_dec (fun _ => ?_) (fun _ => ?_) <;> first | (exfalso; omega) | contradiction | conv => whnf)
   | (refine br_not ?_; conv => whnf)
   | (refine br_bne (fun _ => ?_) (fun _ => ?_) <;> first | (exfalso; omega) | contradiction | conv => whnf)
   | (refine br_beq (fun _ => ?_) (fun _ => ?_) <;> first | (exfalso; omega) | contradiction | conv => whnf))
  all_goals
   refine Out.mk true [] [] ?_
   try (conv => whnf)
   exact ⟨hr, rfl⟩
 obtain ⟨⟨a0, a1⟩, ⟨k0, k8⟩, p0⟩ := id h2
 obtain ⟨K, hK⟩ : ∃ K : Nat, 8 - k = K := ⟨(8 - k).toNat, by omega⟩
 have cp := s_l12Power K (by omega)
 rw [← hK] at cp
 have hP2 : 2 ^ K ≤ 2 ^ 8 := Nat.pow_le_pow_right (by omega) (by omega)
 have htr : trP a k p ↔ p < ((2 ^ K : Nat) : Int) := by
  unfold trP
  rw [show (8 - k).toNat = K by omega]
  exact ⟨fun h => h.2.2.2, fun h => ⟨h2.1, h2.2.1, p0, h⟩⟩
 by_cases hp : p < ((2 ^ K : Nat) : Int)
 rotate_left
 ·have hc := hbad fun h => hp (htr.1 h)
  have hr := trErr hc (by omega)
  generalize 2 ^ K = P at *
  try (conv => whnf)
  repeat (refine SeqJ.thru ?_; conv => whnf)
  refine Hand.mk [] ?_
  try (conv => whnf)
  refine CallW.d (c1) ?_
  try (conv => whnf)
  repeat (refine SeqJ.thru ?_; conv => whnf)
  try (conv => whnf)
  repeat' (first
   | (refine Pick.mk ?_ ?_ ?_; rotate_left; (focus ((refine wid ?_ ?_ <;> omega))); conv => whnf)
   | (refine br_dec (fun _ => ?_) (fun _ => ?_) <;> first | (exfalso; omega) | contradiction | conv => whnf)
   | (refine br_not ?_; conv => whnf)
   | (refine br_bne (fun _ => ?_) (fun _ => ?_) <;> first | (exfalso; omega) | contradiction | conv => whnf)
   | (refine br_beq (fun _ => ?_) (fun _ => ?_) <;> first | (exfalso; omega) | contradiction | conv => whnf))
  refine Hand.mk [] ?_
  try (conv => whnf)
  refine CallW.d (cp) ?_
  try (conv => whnf)
  try (conv => whnf)
  repeat' (first
   | (refine br_dec (fun _ => ?_) (fun _ => ?_) <;> first | (exfalso; omega) | contradiction | conv => whnf)
   | (refine br_not ?_; conv => whnf)
   | (refine br_bne (fun _ => ?_) (fun _ => ?_) <;> first | (exfalso; omega) | contradiction | conv => whnf)
   | (refine br_beq (fun _ => ?_) (fun _ => ?_) <;> first | (exfalso; omega) | contradiction | conv => whnf))
  refine Out.mk true [] [] ?_
  try (conv => whnf)
  exact ⟨hr, rfl⟩
 have hc : trC l a k p = 0 := by rw [trC, if_pos h1, if_pos (htr.2 hp)]
 have hll := h1.len
 have hol := own_le l a
 have cn := s_l12Node (own l a) (by omega) (own_okA h1.good.all a) k.toNat p.toNat (by omega) (by
  have e : (256 : Nat) = 2 ^ K * 2 ^ k.toNat := by rw [← Nat.pow_add, show K + k.toNat = 8 by omega]
  rw [e]
  exact Nat.mul_lt_mul_of_pos_right (by omega) (Nat.two_pow_pos _))
 rw [show ((k.toNat : Nat) : Int) = k by omega, show ((p.toNat : Nat) : Int) = p by omega] at cn
 have hr := fun v h => trGood (v := v) hc h
 generalize 2 ^ K = P at *
 try (conv => whnf)
 repeat (refine SeqJ.thru ?_; conv => whnf)
 refine Hand.mk [] ?_
 try (conv => whnf)
 refine CallW.d (c1) ?_
 try (conv => whnf)
 repeat (refine SeqJ.thru ?_; conv => whnf)
 try (conv => whnf)
 repeat' (first
  | (refine Pick.mk ?_ ?_ ?_; rotate_left; (focus ((refine wid ?_ ?_ <;> omega))); conv => whnf)
  | (refine br_dec (fun _ => ?_) (fun _ => ?_) <;> first | (exfalso; omega) | contradiction | conv => whnf)
  | (refine br_not ?_; conv => whnf)
  | (refine br_bne (fun _ => ?_) (fun _ => ?_) <;> first | (exfalso; omega) | contradiction | conv => whnf)
  | (refine br_beq (fun _ => ?_) (fun _ => ?_) <;> first | (exfalso; omega) | contradiction | conv => whnf))
 refine Hand.mk [] ?_
 try (conv => whnf)
 refine CallW.d (cp) ?_
 try (conv => whnf)
 try (conv => whnf)
 repeat' (first
  | (refine br_dec (fun _ => ?_) (fun _ => ?_) <;> first | (exfalso; omega) | contradiction | conv => whnf)
  | (refine br_not ?_; conv => whnf)
  | (refine br_bne (fun _ => ?_) (fun _ => ?_) <;> first | (exfalso; omega) | contradiction | conv => whnf)
  | (refine br_beq (fun _ => ?_) (fun _ => ?_) <;> first | (exfalso; omega) | contradiction | conv => whnf))
 refine Hand.mk [] ?_
 try (conv => whnf)
 refine CallW.k (s_l12Own l a (by omega)) ?_
 try (conv => whnf)
 refine Hand.mk [] ?_
 try (conv => whnf)
 refine CallW.d (cn) ?_
 try (conv => whnf)
 refine Out.mk true [] [] ?_
 try (conv => whnf)
 exact ⟨hr _ rfl, rfl⟩
end Go.Proofs.Ytpdjehnlejjfmaa.D
/- A log's bytes, plainly. -/
namespace Go.Proofs.Ytpdjehnlejjfmaa.D
open Go.RowKit
set_option maxRecDepth 100000
set_option linter.unusedVariables false
set_option linter.unusedSimpArgs false

def colV (o : OpV) (c : Nat) : Int := (nums o ++ o.deps).getD c 0
def colL (l : List OpV) (c : Nat) : List Int := l.map fun o => colV o c
@[simp] theorem colL_length (l : List OpV) (c : Nat) : (colL l c).length = l.length := by simp [colL]
def keysOf (l : List OpV) : List (List UInt8) := l.map fun o => o.key
def textsOf (l : List OpV) : List (List UInt8) := l.map fun o => o.text
@[simp] theorem keysOf_length (l : List OpV) : (keysOf l).length = l.length := by simp [keysOf]
@[simp] theorem textsOf_length (l : List OpV) : (textsOf l).length = l.length := by simp [textsOf]
end Go.Proofs.Ytpdjehnlejjfmaa.D
/- A log's bytes by the reference. -/
namespace Go.Proofs.Ytpdjehnlejjfmaa.D
open Go.RowKit
set_option maxRecDepth 100000
set_option maxHeartbeats 4000000
set_option linter.unusedVariables false
set_option linter.unusedSimpArgs false

end Go.Proofs.Ytpdjehnlejjfmaa.D
