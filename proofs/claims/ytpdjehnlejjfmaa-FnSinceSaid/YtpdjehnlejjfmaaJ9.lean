/- The program's book of a log: its cells, an operation put into it. -/
import Derived.WalkKit
import Derived.ProofKit
import Derived.OpenShut
import Derived.ShutString
import Derived.ChangeOld
import Derived.Below
import Derived.SizedLaws
import Derived.ChangeSlices
import Derived.SliceStrings
import Derived.Test.YtpdjehnlejjfmaaJ8
set_option linter.unusedVariables false
set_option linter.unusedSimpArgs false
namespace Go.Proofs.Ytpdjehnlejjfmaa.D
open Go.RowKit
set_option maxRecDepth 100000
set_option maxHeartbeats 4000000
set_option linter.unusedVariables false
set_option linter.unusedSimpArgs false

abbrev dI (n : Int) : DV := .sc (.int .i64 n)
def bookD (b : BookV) : List DV := (b.of.map fun l => DV.ow 12 0 l.length (l.map oD)) ++ ((b.kd.map dI) ++ [dI b.size, dI b.tT, dI b.tA])
structure BookV.Wf (b : BookV) : Prop where
 of : b.of.length = 16
 kd : b.kd.length = 101
theorem bookOf_wf (l : List OpV) : (bookOf l).Wf := ⟨by simp, by rw [book_kd]; simp⟩
theorem BookV.Wf.len {b : BookV} (h : b.Wf) : (bookD b).length = 120 := by simp [bookD, h.of, h.kd]
theorem bk_of {b : BookV} (h : b.Wf) {a : Nat} (ha : a < 16) : (bookD b)[a]? = some (.ow 12 0 (b.of.getD a []).length ((b.of.getD a []).map oD)) := by
 have := h.of
 simp only [bookD]
 rw [List.getElem?_append_left (by simp; omega), List.getElem?_map, List.getElem?_eq_getElem (by omega)]
 simp [List.getD, show a < b.of.length by omega]
theorem bk_kd {b : BookV} (h : b.Wf) {j : Nat} (hj : j < 101) : (bookD b)[16 + j]? = some (dI (b.kd.getD j 0)) := by
 have h1 := h.of; have h2 := h.kd
 simp only [bookD]
 rw [List.getElem?_append_right (by simp; omega), List.getElem?_append_left (by simp; omega)]
 simp [List.getD, h1, show j < b.kd.length by omega]
theorem bk_tail {b : BookV} (h : b.Wf) (n : Nat) : (bookD b)[117 + n]? = [dI b.size, dI b.tT, dI b.tA][n]? := by
 have h1 := h.of; have h2 := h.kd
 simp only [bookD]
 rw [List.getElem?_append_right (by simp; omega), List.getElem?_append_right (by simp; omega)]
 congr 1; simp [h1, h2]; omega
theorem bk_size {b : BookV} (h : b.Wf) : (bookD b)[117]? = some (dI b.size) := bk_tail h 0
theorem bk_top {b : BookV} (h : b.Wf) : 118 + 2 ≤ (bookD b).length ∧ ((bookD b).drop 118).take 2 = [dI b.tT, dI b.tA] := by
 refine ⟨by rw [h.len]; omega, ?_⟩
 apply List.ext_getElem?
 intro i
 rw [List.getElem?_take]
 split
 ·rename_i hi
  rw [List.getElem?_drop, show 118 + i = 117 + (1 + i) by omega, bk_tail h]
  match i, hi with
  | 0, _ => rfl
  | 1, _ => rfl
 ·rw [List.getElem?_eq_none]; simp; omega
theorem splice_one {old : List DV} {f : Nat} (d : DV) (h : f < old.length) : splice old f [d] = old.set f d := by
 unfold splice
 rw [List.set_eq_take_append_cons_drop, if_pos h]
 simp
theorem splice_two {old : List DV} {f : Nat} (d e : DV) (h : f + 1 < old.length) : splice old f [d, e] = (old.set f d).set (f + 1) e := by
 unfold splice
 apply List.ext_getElem?
 intro i
 rw [List.getElem?_set, List.getElem?_set]
 simp only [List.length_set]
 rcases Nat.lt_trichotomy i f with g | g | g
 ·rw [if_neg (by omega), if_neg (by omega), List.append_assoc, List.getElem?_append_left (by simp; omega), List.getElem?_take, if_pos g]
 ·subst g
  rw [if_neg (by omega), if_pos rfl, if_pos (by omega), List.append_assoc, List.getElem?_append_right (by simp; omega)]
  simp [show min i old.length = i by omega]
 ·by_cases g2 : i = f + 1
  ·subst g2
   rw [if_pos rfl, if_pos h, List.append_assoc, List.getElem?_append_right (by simp; omega)]
   simp [show min f old.length = f by omega]
  ·rw [if_neg (by omega), if_neg (by omega), List.getElem?_append_right (by simp; omega), List.getElem?_drop]
   congr 1; simp; omega
theorem bk_setOf {b : BookV} (h : b.Wf) {a : Nat} (ha : a < 16) (l : List OpV) (n : Nat) (hn : n = l.length) : splice ((bookD b).set a .no) a [.ow 12 0 n (l.map oD)] = bookD { b with of := b.of.set a l } := by
 subst hn
 have h1 := h.of
 rw [splice_one _ (by simp [h.len]; omega), List.set_set]
 simp only [bookD]
 rw [List.set_append_left _ _ (by simp; omega), List.map_set]
theorem bk_setKd {b : BookV} (h : b.Wf) {j : Nat} (hj : j < 101) (x : Int) : splice (bookD b) (16 + j) [dI x] = bookD { b with kd := b.kd.set j x } := by
 have h1 := h.of; have h2 := h.kd
 rw [splice_one _ (by simp [h.len]; omega)]
 simp only [bookD]
 rw [List.set_append_right _ _ (by simp; omega), List.set_append_left _ _ (by simp; omega), List.map_set]
 congr 3; simp; omega
theorem bk_setSize {b : BookV} (h : b.Wf) (x : Int) : splice (bookD b) 117 [dI x] = bookD { b with size := x } := by
 have h1 := h.of; have h2 := h.kd
 rw [splice_one _ (by simp [h.len])]
 simp only [bookD]
 rw [List.set_append_right _ _ (by simp; omega), List.set_append_right _ _ (by simp; omega)]
 simp [h1, h2]
theorem bk_setTop {b : BookV} (h : b.Wf) (t a : Int) : splice (bookD b) 118 [dI t, dI a] = bookD { b with tT := t, tA := a } := by
 have h1 := h.of; have h2 := h.kd
 rw [splice_two _ _ (by simp [h.len])]
 simp only [bookD]
 rw [List.set_append_right _ _ (by simp; omega), List.set_append_right _ _ (by simp; omega), List.set_append_right _ _ (by simp; omega), List.set_append_right _ _ (by simp; omega)]
 simp [h1, h2]
theorem bkl_setOf {b : BookV} (h : b.Wf) {a : Nat} (ha : a < 16) (l : List OpV) (n : Nat) (hn : n = l.length) : [(bookD b).set a .no].set 0 (splice ((bookD b).set a .no) a [.ow 12 0 n (l.map oD)]) = [bookD { b with of := b.of.set a l }] := by
 rw [List.set_cons_zero, bk_setOf h ha l n hn]
theorem bkl_setKd {b : BookV} (h : b.Wf) {j : Nat} (hj : j < 101) (x : Int) : [bookD b].set 0 (splice (bookD b) (16 + j) [dI x]) = [bookD { b with kd := b.kd.set j x }] := by
 rw [List.set_cons_zero, bk_setKd h hj x]
theorem bkl_setSize {b : BookV} (h : b.Wf) (x : Int) : [bookD b].set 0 (splice (bookD b) 117 [dI x]) = [bookD { b with size := x }] := by
 rw [List.set_cons_zero, bk_setSize h x]
theorem bkl_setTop {b : BookV} (h : b.Wf) (t a : Int) : [bookD b].set 0 (splice (bookD b) 118 [dI t, dI a]) = [bookD { b with tT := t, tA := a }] := by
 rw [List.set_cons_zero, bk_setTop h t a]
theorem i_thing (o : OpV) : CallD Try.prog id_impl_Op_thing [vO o] [] (vI .i64 (thI o.kind)) [] := by
 refine F_impl_Op_thing ?_
 try (conv => whnf)
 repeat' (first
  | (refine SeqJ.thru ?_; conv => whnf)
  | (refine br_dec (fun _ => ?_) (fun _ => ?_) <;> first | (exfalso; omega) | contradiction | conv => whnf)
  | (refine br_not ?_; conv => whnf)
  | (refine br_bne (fun _ => ?_) (fun _ => ?_) <;> first | (exfalso; omega) | contradiction | conv => whnf)
  | (refine br_beq (fun _ => ?_) (fun _ => ?_) <;> first | (exfalso; omega) | contradiction | conv => whnf))
 all_goals
  refine Out.mk true [] [] ?_
  try (conv => whnf)
 ·exact ⟨by rw [thI, if_pos (by omega)], rfl⟩
 ·exact ⟨by rw [thI, if_neg (by omega)], rfl⟩
theorem BookV.Wf.put {b : BookV} (h : b.Wf) (o : OpV) : (b.put o).Wf := ⟨by simp [BookV.put, h.of], by simp [BookV.put, h.kd]⟩
theorem i_put (b : BookV) (hb : b.Wf) (o : OpV) (ha : actOk o.actor) (ho : 1 ≤ o.obj ∧ o.obj ≤ 100) (hn : (b.of.getD o.actor.toNat []).length ≤ 2 ^ 20) (hs : 0 ≤ b.size ∧ b.size ≤ 2 ^ 40) :
  CallN Try.prog id_impl_book_put [.one (.ep (.v 0) 120 0 0), vO o] [.own 120 [bookD b]] [] (.tup []) [.own 120 [bookD (b.put o)]] := by
 refine F_impl_book_put ?_
 obtain ⟨a0, a1⟩ := ha
 have w1 : ({ b with of := b.of.set o.actor.toNat (b.of.getD o.actor.toNat [] ++ [o]) } : BookV).Wf := ⟨by simp [hb.of], hb.kd⟩
 have w2 : ({ b with of := b.of.set o.actor.toNat (b.of.getD o.actor.toNat [] ++ [o]), kd := b.kd.set o.obj.toNat (thI o.kind) } : BookV).Wf := ⟨by simp [hb.of], by simp [hb.kd]⟩
 have w3 : ({ b with of := b.of.set o.actor.toNat (b.of.getD o.actor.toNat [] ++ [o]), kd := b.kd.set o.obj.toNat (thI o.kind), size := b.size + 1 } : BookV).Wf := ⟨by simp [hb.of], by simp [hb.kd]⟩
 try (conv => whnf)
 repeat (first
  | (refine Need.mk ?_ ?_; (focus (first | omega | (simp only [List.length_map, List.length_append, List.length_cons, List.length_nil, List.length_replicate]; omega) | rfl | (first | exact fz_self _ _ (fun _ => rfl) | exact fz_pl rfl | (refine Fz.append ?_ ?_ <;> first | exact fz_self _ _ (fun _ => rfl) | exact fz_pl rfl) | (refine Fz.append (Fz.append ?_ ?_) ?_ <;> first | exact fz_self _ _ (fun _ => rfl) | exact fz_pl rfl)) | ((conv => whnf); (repeat (first | (refine Need.mk (by first | rfl | omega | (simp; done)) ?_; conv => whnf) | (refine Pick.mk ?_ ?_ ?_; rotate_left; (focus (first | with_reducible exact xor_u8 _ _ | (with_reducible refine xor_i64 ?_ ?_; all_goals omega) | (with_reducible refine xor_u32 ?_ ?_; all_goals omega) | exact map_snoc oD _ _ | (dsimp only; refine wid ?_ ?_ <;> omega) | (refine bkl_setTop ?_ _ _; assumption) | (refine bkl_setSize ?_ _; assumption) | (refine bkl_setKd ?_ ?_ _ <;> first | assumption | omega) | (refine bkl_setOf ?_ ?_ _ _ ?_ <;> first | assumption | omega | (simp; done)) | (refine bk_top ?_; assumption) | (with_reducible refine bk_size ?_; assumption) | (with_reducible refine bk_kd ?_ ?_ <;> first | assumption | omega) | (with_reducible refine bk_of ?_ ?_ <;> first | assumption | omega) | assumption | with_reducible exact set_byN _ _ _ _ | with_reducible exact set_byI _ _ _ _ | with_reducible exact set_inN _ _ _ _ | with_reducible exact set_inI _ _ _ _ | with_reducible exact set_stN _ _ _ _ | with_reducible exact set_tsN _ _ _ _ | with_reducible exact set_tsI _ _ _ _ | with_reducible exact set_boN _ _ _ _ | with_reducible exact set_boI _ _ _ _ | (with_reducible refine get_mapN _ _ _ ?_; first | omega | (simp; omega)) | (with_reducible refine get_mapI _ _ _ ?_ ?_ <;> first | omega | (simp; omega)) | exact bs_beq _ _ | exact bs_less _ _ | exact bs_leq _ _ | with_reducible exact bs_app _ _ | (refine bs_get _ _ ?_; omega) | (refine bs_int _ _ ?_ ?_ <;> omega) | with_reducible exact sl_map0 _ _ _ | with_reducible exact sl_mapN _ _ _ | with_reducible exact sl_map _ _ _ _ | exact bs_extract0 _ _ | exact bs_extractN _ _ | exact bs_extract _ _ _ | (refine bnd_id ?_; omega) | (refine bnd_sub ?_ ?_ <;> omega) | (refine bnd_add ?_; omega) | (refine bnd_subN ?_ ?_ <;> omega) | (refine bnd_int ?_ ?_ <;> omega) | ((show @Eq Nat (_ + Int.toNat _ * _) _); simp only [Int.toNat_natCast, Nat.zero_add, Nat.mul_one]; rfl) | ((show @Eq (List _) (List.set [_] _ _) _); simp only [List.set_cons_zero]; rfl) | exact List.length_map _ | exact size_bs _ | (simp only [List.length_map, List.length_append, List.length_cons, List.length_nil, List.length_replicate, Nat.zero_add]; rfl) | with_reducible exact List.nil_append _ | with_reducible exact map_app _ _ _ | exact map_snoc byD _ _ | exact map_snoc inD _ _ | exact map_snoc stD _ _ | exact map_snoc tsD _ _ | (simp only [chunks]; rfl) | (refine wid ?_ ?_ <;> omega) | exact wby _ | with_reducible exact wby32 _ | with_reducible exact wu32 _ | exact wby64 _ | exact shr8 _ | exact shr16 _ | exact shr24 _ | exact shr32 _ | (refine tmodn ?_; omega) | (refine wdiv ?_ ?_ ?_ <;> omega) | exact wbyte _ | exact natlit _ | exact rep_by _ | exact rep_in _ | exact rep_bo _ | exact rep_st _ | (refine pick_nat _ _ _ ?_; omega) | (refine pick_int _ _ _ ?_ ?_ <;> omega) | (refine SlOf.full ?_; first | (simp; done) | (simp; omega)) | (with_reducible refine SlOf.pre _ _ ?_; first | omega | (simp; omega)) | (refine SlF.self _ _ ?_ ?_; (first | rfl | omega | (simp; done) | (simp; omega)); (exact fun _ => rfl)) | (refine SlF.pre _ _ ?_ ?_; (first | omega | (simp; omega)); (exact fun _ => rfl)) | (refine SlF.same ?_ ?_; (first | rfl | omega | (simp; done) | (simp; omega)); (first | exact fz_self _ _ (fun _ => rfl) | exact fz_pl rfl | (refine Fz.append ?_ ?_ <;> first | exact fz_self _ _ (fun _ => rfl) | exact fz_pl rfl) | (refine Fz.append (Fz.append ?_ ?_) ?_ <;> first | exact fz_self _ _ (fun _ => rfl) | exact fz_pl rfl))) | (simp only [Int.toNat_natCast, Nat.zero_add, Nat.mul_one]; rfl) | ((show @Eq (Option CV) _ _); rfl) | ((fail_if_success (show @Eq (Option _) _ _)); rfl) | ((show @Eq (Option _) _ _); simp only [List.getElem?_cons_zero, List.getElem?_cons_succ]; done) | ((show @Eq (Option _) _ _); simp only [List.getElem?_cons_zero, List.getElem?_cons_succ]; rfl) | with_reducible rfl)); conv => whnf))); exact Done.mk trivial))); conv => whnf)
  | (refine Pick.mk ?_ ?_ ?_; rotate_left; (focus (first | exact map_snoc oD _ _ | (refine bkl_setOf ?_ ?_ _ _ ?_ <;> first | assumption | omega | (simp; done)) | (with_reducible refine bk_of ?_ ?_ <;> first | assumption | omega) | ((show @Eq Nat (_ + Int.toNat _ * _) _); simp only [Int.toNat_natCast, Nat.zero_add, Nat.mul_one]; rfl) | ((show @Eq (List _) (List.set [_] _ _) _); simp only [List.set_cons_zero]; rfl) | (simp only [List.length_map, List.length_append, List.length_cons, List.length_nil, List.length_replicate, Nat.zero_add]; rfl) | (simp only [chunks]; rfl) | (refine SlOf.full ?_; first | (simp; done) | (simp; omega)) | ((show @Eq (Option _) _ _); simp only [List.getElem?_cons_zero, List.getElem?_cons_succ]; rfl))); conv => whnf)
  | (refine OwnQ.mk true ?_; conv => whnf))
 refine Hand.mk [] ?_
 try (conv => whnf)
 refine CallW.d (i_thing o) ?_
 try (conv => whnf)
 repeat (first
  | (refine Need.mk ?_ ?_; (focus (first | omega | (simp only [List.length_map, List.length_append, List.length_cons, List.length_nil, List.length_replicate]; omega) | ((conv => whnf); (repeat (first | (refine Need.mk (by first | rfl | omega | (simp; done)) ?_; conv => whnf) | (refine Pick.mk ?_ ?_ ?_; rotate_left; (focus (first | with_reducible exact xor_u8 _ _ | (with_reducible refine xor_i64 ?_ ?_; all_goals omega) | (with_reducible refine xor_u32 ?_ ?_; all_goals omega) | exact map_snoc oD _ _ | (dsimp only; refine wid ?_ ?_ <;> omega) | (refine bkl_setTop ?_ _ _; assumption) | (refine bkl_setSize ?_ _; assumption) | (refine bkl_setKd ?_ ?_ _ <;> first | assumption | omega) | (refine bkl_setOf ?_ ?_ _ _ ?_ <;> first | assumption | omega | (simp; done)) | (refine bk_top ?_; assumption) | (with_reducible refine bk_size ?_; assumption) | (with_reducible refine bk_kd ?_ ?_ <;> first | assumption | omega) | (with_reducible refine bk_of ?_ ?_ <;> first | assumption | omega) | assumption | with_reducible exact set_byN _ _ _ _ | with_reducible exact set_byI _ _ _ _ | with_reducible exact set_inN _ _ _ _ | with_reducible exact set_inI _ _ _ _ | with_reducible exact set_stN _ _ _ _ | with_reducible exact set_tsN _ _ _ _ | with_reducible exact set_tsI _ _ _ _ | with_reducible exact set_boN _ _ _ _ | with_reducible exact set_boI _ _ _ _ | (with_reducible refine get_mapN _ _ _ ?_; first | omega | (simp; omega)) | (with_reducible refine get_mapI _ _ _ ?_ ?_ <;> first | omega | (simp; omega)) | exact bs_beq _ _ | exact bs_less _ _ | exact bs_leq _ _ | with_reducible exact bs_app _ _ | (refine bs_get _ _ ?_; omega) | (refine bs_int _ _ ?_ ?_ <;> omega) | with_reducible exact sl_map0 _ _ _ | with_reducible exact sl_mapN _ _ _ | with_reducible exact sl_map _ _ _ _ | exact bs_extract0 _ _ | exact bs_extractN _ _ | exact bs_extract _ _ _ | (refine bnd_id ?_; omega) | (refine bnd_sub ?_ ?_ <;> omega) | (refine bnd_add ?_; omega) | (refine bnd_subN ?_ ?_ <;> omega) | (refine bnd_int ?_ ?_ <;> omega) | ((show @Eq Nat (_ + Int.toNat _ * _) _); simp only [Int.toNat_natCast, Nat.zero_add, Nat.mul_one]; rfl) | ((show @Eq (List _) (List.set [_] _ _) _); simp only [List.set_cons_zero]; rfl) | exact List.length_map _ | exact size_bs _ | (simp only [List.length_map, List.length_append, List.length_cons, List.length_nil, List.length_replicate, Nat.zero_add]; rfl) | with_reducible exact List.nil_append _ | with_reducible exact map_app _ _ _ | exact map_snoc byD _ _ | exact map_snoc inD _ _ | exact map_snoc stD _ _ | exact map_snoc tsD _ _ | (simp only [chunks]; rfl) | (refine wid ?_ ?_ <;> omega) | exact wby _ | with_reducible exact wby32 _ | with_reducible exact wu32 _ | exact wby64 _ | exact shr8 _ | exact shr16 _ | exact shr24 _ | exact shr32 _ | (refine tmodn ?_; omega) | (refine wdiv ?_ ?_ ?_ <;> omega) | exact wbyte _ | exact natlit _ | exact rep_by _ | exact rep_in _ | exact rep_bo _ | exact rep_st _ | (refine pick_nat _ _ _ ?_; omega) | (refine pick_int _ _ _ ?_ ?_ <;> omega) | (refine SlOf.full ?_; first | (simp; done) | (simp; omega)) | (with_reducible refine SlOf.pre _ _ ?_; first | omega | (simp; omega)) | (refine SlF.self _ _ ?_ ?_; (first | rfl | omega | (simp; done) | (simp; omega)); (exact fun _ => rfl)) | (refine SlF.pre _ _ ?_ ?_; (first | omega | (simp; omega)); (exact fun _ => rfl)) | (refine SlF.same ?_ ?_; (first | rfl | omega | (simp; done) | (simp; omega)); (first | exact fz_self _ _ (fun _ => rfl) | exact fz_pl rfl | (refine Fz.append ?_ ?_ <;> first | exact fz_self _ _ (fun _ => rfl) | exact fz_pl rfl) | (refine Fz.append (Fz.append ?_ ?_) ?_ <;> first | exact fz_self _ _ (fun _ => rfl) | exact fz_pl rfl))) | (simp only [Int.toNat_natCast, Nat.zero_add, Nat.mul_one]; rfl) | ((show @Eq (Option CV) _ _); rfl) | ((fail_if_success (show @Eq (Option _) _ _)); rfl) | ((show @Eq (Option _) _ _); simp only [List.getElem?_cons_zero, List.getElem?_cons_succ]; done) | ((show @Eq (Option _) _ _); simp only [List.getElem?_cons_zero, List.getElem?_cons_succ]; rfl) | with_reducible rfl)); conv => whnf))); exact Done.mk trivial))); conv => whnf)
  | (refine Pick.mk ?_ ?_ ?_; rotate_left; (focus (first | (dsimp only; refine wid ?_ ?_ <;> omega) | (refine bkl_setSize ?_ _; assumption) | (refine bkl_setKd ?_ ?_ _ <;> first | assumption | omega) | (refine bk_top ?_; assumption) | (with_reducible refine bk_size ?_; assumption) | ((show @Eq Nat (_ + Int.toNat _ * _) _); simp only [Int.toNat_natCast, Nat.zero_add, Nat.mul_one]; rfl) | (simp only [List.length_map, List.length_append, List.length_cons, List.length_nil, List.length_replicate, Nat.zero_add]; rfl) | ((show @Eq (Option _) _ _); simp only [List.getElem?_cons_zero, List.getElem?_cons_succ]; rfl))); conv => whnf))
 refine Hand.mk [] ?_
 try (conv => whnf)
 refine CallW.d (i_stamp o) ?_
 try (conv => whnf)
 repeat (refine Need.mk ?_ ?_; (focus (((conv => whnf); (repeat (first | (refine Need.mk (by first | rfl | omega | (simp; done)) ?_; conv => whnf) | (refine Pick.mk ?_ ?_ ?_; rotate_left; (focus (first | with_reducible exact xor_u8 _ _ | (with_reducible refine xor_i64 ?_ ?_; all_goals omega) | (with_reducible refine xor_u32 ?_ ?_; all_goals omega) | exact map_snoc oD _ _ | (dsimp only; refine wid ?_ ?_ <;> omega) | (refine bkl_setTop ?_ _ _; assumption) | (refine bkl_setSize ?_ _; assumption) | (refine bkl_setKd ?_ ?_ _ <;> first | assumption | omega) | (refine bkl_setOf ?_ ?_ _ _ ?_ <;> first | assumption | omega | (simp; done)) | (refine bk_top ?_; assumption) | (with_reducible refine bk_size ?_; assumption) | (with_reducible refine bk_kd ?_ ?_ <;> first | assumption | omega) | (with_reducible refine bk_of ?_ ?_ <;> first | assumption | omega) | assumption | with_reducible exact set_byN _ _ _ _ | with_reducible exact set_byI _ _ _ _ | with_reducible exact set_inN _ _ _ _ | with_reducible exact set_inI _ _ _ _ | with_reducible exact set_stN _ _ _ _ | with_reducible exact set_tsN _ _ _ _ | with_reducible exact set_tsI _ _ _ _ | with_reducible exact set_boN _ _ _ _ | with_reducible exact set_boI _ _ _ _ | (with_reducible refine get_mapN _ _ _ ?_; first | omega | (simp; omega)) | (with_reducible refine get_mapI _ _ _ ?_ ?_ <;> first | omega | (simp; omega)) | exact bs_beq _ _ | exact bs_less _ _ | exact bs_leq _ _ | with_reducible exact bs_app _ _ | (refine bs_get _ _ ?_; omega) | (refine bs_int _ _ ?_ ?_ <;> omega) | with_reducible exact sl_map0 _ _ _ | with_reducible exact sl_mapN _ _ _ | with_reducible exact sl_map _ _ _ _ | exact bs_extract0 _ _ | exact bs_extractN _ _ | exact bs_extract _ _ _ | (refine bnd_id ?_; omega) | (refine bnd_sub ?_ ?_ <;> omega) | (refine bnd_add ?_; omega) | (refine bnd_subN ?_ ?_ <;> omega) | (refine bnd_int ?_ ?_ <;> omega) | ((show @Eq Nat (_ + Int.toNat _ * _) _); simp only [Int.toNat_natCast, Nat.zero_add, Nat.mul_one]; rfl) | ((show @Eq (List _) (List.set [_] _ _) _); simp only [List.set_cons_zero]; rfl) | exact List.length_map _ | exact size_bs _ | (simp only [List.length_map, List.length_append, List.length_cons, List.length_nil, List.length_replicate, Nat.zero_add]; rfl) | with_reducible exact List.nil_append _ | with_reducible exact map_app _ _ _ | exact map_snoc byD _ _ | exact map_snoc inD _ _ | exact map_snoc stD _ _ | exact map_snoc tsD _ _ | (simp only [chunks]; rfl) | (refine wid ?_ ?_ <;> omega) | exact wby _ | with_reducible exact wby32 _ | with_reducible exact wu32 _ | exact wby64 _ | exact shr8 _ | exact shr16 _ | exact shr24 _ | exact shr32 _ | (refine tmodn ?_; omega) | (refine wdiv ?_ ?_ ?_ <;> omega) | exact wbyte _ | exact natlit _ | exact rep_by _ | exact rep_in _ | exact rep_bo _ | exact rep_st _ | (refine pick_nat _ _ _ ?_; omega) | (refine pick_int _ _ _ ?_ ?_ <;> omega) | (refine SlOf.full ?_; first | (simp; done) | (simp; omega)) | (with_reducible refine SlOf.pre _ _ ?_; first | omega | (simp; omega)) | (refine SlF.self _ _ ?_ ?_; (first | rfl | omega | (simp; done) | (simp; omega)); (exact fun _ => rfl)) | (refine SlF.pre _ _ ?_ ?_; (first | omega | (simp; omega)); (exact fun _ => rfl)) | (refine SlF.same ?_ ?_; (first | rfl | omega | (simp; done) | (simp; omega)); (first | exact fz_self _ _ (fun _ => rfl) | exact fz_pl rfl | (refine Fz.append ?_ ?_ <;> first | exact fz_self _ _ (fun _ => rfl) | exact fz_pl rfl) | (refine Fz.append (Fz.append ?_ ?_) ?_ <;> first | exact fz_self _ _ (fun _ => rfl) | exact fz_pl rfl))) | (simp only [Int.toNat_natCast, Nat.zero_add, Nat.mul_one]; rfl) | ((show @Eq (Option CV) _ _); rfl) | ((fail_if_success (show @Eq (Option _) _ _)); rfl) | ((show @Eq (Option _) _ _); simp only [List.getElem?_cons_zero, List.getElem?_cons_succ]; done) | ((show @Eq (Option _) _ _); simp only [List.getElem?_cons_zero, List.getElem?_cons_succ]; rfl) | with_reducible rfl)); conv => whnf))); exact Done.mk trivial))); conv => whnf)
 refine Hand.mk [] ?_
 try (conv => whnf)
 refine CallW.d (i_StampLess b.tT b.tA o.time o.actor) ?_
 try (conv => whnf)
 try (conv => whnf)
 repeat' (first
  | (refine br_dec (fun _ => ?_) (fun _ => ?_) <;> first | (exfalso; omega) | contradiction | conv => whnf)
  | (refine br_not ?_; conv => whnf)
  | (refine br_bne (fun _ => ?_) (fun _ => ?_) <;> first | (exfalso; omega) | contradiction | conv => whnf)
  | (refine br_beq (fun _ => ?_) (fun _ => ?_) <;> first | (exfalso; omega) | contradiction | conv => whnf))
 ·rename_i hlt
  refine Hand.mk [] ?_
  try (conv => whnf)
  refine CallW.d (i_stamp o) ?_
  try (conv => whnf)
  repeat (first
   | (refine Need.mk ?_ ?_; (focus ((simp only [List.length_map, List.length_append, List.length_cons, List.length_nil, List.length_replicate]; omega))); conv => whnf)
   | (refine Pick.mk ?_ ?_ ?_; rotate_left; (focus (first | (refine bkl_setTop ?_ _ _; assumption) | (simp only [List.length_map, List.length_append, List.length_cons, List.length_nil, List.length_replicate, Nat.zero_add]; rfl))); conv => whnf))
  refine Out.mk false [0, 1, 2, 3, 4] [] ?_
  try (conv => whnf)
  exact ⟨rfl, by simp only [BookV.put, if_pos hlt]⟩
 ·rename_i hlt
  refine Out.mk false [0, 1, 2, 3, 4] [] ?_
  try (conv => whnf)
  exact ⟨rfl, by simp only [BookV.put, if_neg hlt]⟩
end Go.Proofs.Ytpdjehnlejjfmaa.D
/- A log taken apart by the program. -/
namespace Go.Proofs.Ytpdjehnlejjfmaa.D
open Go.RowKit
set_option maxRecDepth 100000
set_option maxHeartbeats 4000000
set_option linter.unusedVariables false
set_option linter.unusedSimpArgs false

abbrev vBook : SV := .tup [(false, [.ep (.v 0) 120 0 0]), (false, [cB true])]
abbrev vNoBook : SV := .tup [(false, [.dv (.sc (.pointer none))]), (false, [cB false])]
def ReadPost (l : List OpV) (res : SV) (Lo : List Row) : Prop := (LogOk l ∧ res = vBook ∧ Lo = [.own 120 [bookD (bookOf l)]]) ∨ (¬ LogOk l ∧ res = vNoBook ∧ Lo = [])
theorem bookOf_own {l : List OpV} (h : ∀ o ∈ l, OpOk o) {a : Int} (ha : actOk a) : (bookOf l).of.getD a.toNat [] = own l a := by
 obtain ⟨a0, a1⟩ := ha
 rw [book_of (by omega) l h, show ((a.toNat : Nat) : Int) = a by omega]
theorem i_readBook (l : List OpV) (hw : ∀ o ∈ l, o.key.length ≤ 2 ^ 40 ∧ o.text.length ≤ 2 ^ 40) : CallM Try.prog id_impl_readBook [vL l] [] [] false (ReadPost l) := by
 refine F_impl_readBook ?_
 try (conv => whnf)
 repeat' (first
  | (refine Pick.mk ?_ ?_ ?_; rotate_left; (focus (exact List.length_map _)); conv => whnf)
  | (refine SeqJ.thru ?_; conv => whnf)
  | (refine br_dec (fun _ => ?_) (fun _ => ?_) <;> first | (exfalso; omega) | contradiction | conv => whnf)
  | (refine br_not ?_; conv => whnf)
  | (refine br_bne (fun _ => ?_) (fun _ => ?_) <;> first | (exfalso; omega) | contradiction | conv => whnf)
  | (refine br_beq (fun _ => ?_) (fun _ => ?_) <;> first | (exfalso; omega) | contradiction | conv => whnf))
 ·rename_i hlen
  refine Out.mk false [0, 1, 2, 3, 4] [] ?_
  try (conv => whnf)
  exact ⟨.inr ⟨fun h => by have := h.len; omega, rfl, rfl⟩⟩
 ·rename_i hlen
  refine LoopE.mk (fun i : Nat => mk [(0, vL l), (16, vL l), (17, vI .i64 l.length), (18, vI .i64 i), (4, .one (.ep (.v 16400) 120 0 0))] [(16400, .own 120 [bookD (bookOf (l.take i))])])
   (fun i => i ≤ l.length ∧ Good1 l i ∧ SameTh thI (l.take i)) (fun i => l.length - i) 0 ⟨by omega, Good1.zero l, fun a ha => by simp at ha⟩ (LeX.of ?_) ?_
  ·try (conv => whnf)
   repeat (refine Need.mk ?_ ?_; (focus (first | omega | (simp; done) | rfl)); conv => whnf)
   trivial
  ·rintro i ⟨hi, hg, hs⟩
   try (conv => whnf)
   repeat' (first
    | (refine Pick.mk ?_ ?_ ?_; rotate_left; (focus (first | exact List.length_map _ | (refine pick_nat _ _ _ ?_; omega))); conv => whnf)
    | (refine SeqJ.thru ?_; conv => whnf)
    | (refine br_dec (fun _ => ?_) (fun _ => ?_) <;> first | (exfalso; omega) | contradiction | conv => whnf)
    | (refine br_not ?_; conv => whnf)
    | (refine br_bne (fun _ => ?_) (fun _ => ?_) <;> first | (exfalso; omega) | contradiction | conv => whnf)
    | (refine br_beq (fun _ => ?_) (fun _ => ?_) <;> first | (exfalso; omega) | contradiction | conv => whnf))
   ·have hlt : i < l.length := by omega
    obtain ⟨hk, ht⟩ := hw _ (List.getElem_mem hlt)
    by_cases hok : OpOk l[i]
    ·obtain ⟨a0, a1⟩ := hok.st.2
     have hob := hok.obj
     have e1 := bookOf_own hg.ok ⟨a0, a1⟩
     have e2 : ((bookOf (l.take i)).of.getD l[i].actor.toNat []).length ≤ 1024 := by
      rw [e1]; exact Nat.le_trans (own_le _ _) (by simp; omega)
     have wf := bookOf_wf (l.take i)
     have ep : ((i : Int) - 1).toNat = i - 1 := by omega
     refine Hand.mk [] ?_
     try (conv => whnf)
     refine CallW.d (i_opOK l[i] hk ht) ?_
     try (conv => whnf)
     try (conv => whnf)
     repeat' (first
      | (refine Need.mk ?_ ?_; (focus (first | omega | ((conv => whnf); (repeat (first | (refine Need.mk (by first | rfl | omega | (simp; done)) ?_; conv => whnf) | (refine Pick.mk ?_ ?_ ?_; rotate_left; (focus (first | with_reducible exact xor_u8 _ _ | (with_reducible refine xor_i64 ?_ ?_; all_goals omega) | (with_reducible refine xor_u32 ?_ ?_; all_goals omega) | (refine bk_top ?_; assumption) | (with_reducible refine bk_size ?_; assumption) | (with_reducible refine bk_kd ?_ ?_ <;> first | assumption | omega) | (with_reducible refine bk_of ?_ ?_ <;> first | assumption | omega) | assumption | with_reducible exact set_byN _ _ _ _ | with_reducible exact set_byI _ _ _ _ | with_reducible exact set_inN _ _ _ _ | with_reducible exact set_inI _ _ _ _ | with_reducible exact set_stN _ _ _ _ | with_reducible exact set_tsN _ _ _ _ | with_reducible exact set_tsI _ _ _ _ | with_reducible exact set_boN _ _ _ _ | with_reducible exact set_boI _ _ _ _ | (with_reducible refine get_mapN _ _ _ ?_; first | omega | (simp; omega)) | (with_reducible refine get_mapI _ _ _ ?_ ?_ <;> first | omega | (simp; omega)) | exact bs_beq _ _ | exact bs_less _ _ | exact bs_leq _ _ | with_reducible exact bs_app _ _ | (refine bs_get _ _ ?_; omega) | (refine bs_int _ _ ?_ ?_ <;> omega) | with_reducible exact sl_map0 _ _ _ | with_reducible exact sl_mapN _ _ _ | with_reducible exact sl_map _ _ _ _ | exact bs_extract0 _ _ | exact bs_extractN _ _ | exact bs_extract _ _ _ | (refine bnd_id ?_; omega) | (refine bnd_sub ?_ ?_ <;> omega) | (refine bnd_add ?_; omega) | (refine bnd_subN ?_ ?_ <;> omega) | (refine bnd_int ?_ ?_ <;> omega) | ((show @Eq Nat (_ + Int.toNat _ * _) _); simp only [Int.toNat_natCast, Nat.zero_add, Nat.mul_one]; rfl) | ((show @Eq (List _) (List.set [_] _ _) _); simp only [List.set_cons_zero]; rfl) | exact List.length_map _ | exact size_bs _ | (simp only [List.length_map, List.length_append, List.length_cons, List.length_nil, List.length_replicate, Nat.zero_add]; rfl) | with_reducible exact List.nil_append _ | with_reducible exact map_app _ _ _ | exact map_snoc byD _ _ | exact map_snoc inD _ _ | exact map_snoc stD _ _ | exact map_snoc tsD _ _ | (simp only [chunks]; rfl) | (refine wid ?_ ?_ <;> omega) | exact wby _ | with_reducible exact wby32 _ | with_reducible exact wu32 _ | exact wby64 _ | exact shr8 _ | exact shr16 _ | exact shr24 _ | exact shr32 _ | (refine tmodn ?_; omega) | (refine wdiv ?_ ?_ ?_ <;> omega) | exact wbyte _ | exact natlit _ | exact rep_by _ | exact rep_in _ | exact rep_bo _ | exact rep_st _ | (refine pick_nat _ _ _ ?_; omega) | (refine pick_int _ _ _ ?_ ?_ <;> omega) | (refine SlOf.full ?_; first | (simp; done) | (simp; omega)) | (with_reducible refine SlOf.pre _ _ ?_; first | omega | (simp; omega)) | (refine SlF.self _ _ ?_ ?_; (first | rfl | omega | (simp; done) | (simp; omega)); (exact fun _ => rfl)) | (refine SlF.pre _ _ ?_ ?_; (first | omega | (simp; omega)); (exact fun _ => rfl)) | (refine SlF.same ?_ ?_; (first | rfl | omega | (simp; done) | (simp; omega)); (first | exact fz_self _ _ (fun _ => rfl) | exact fz_pl rfl | (refine Fz.append ?_ ?_ <;> first | exact fz_self _ _ (fun _ => rfl) | exact fz_pl rfl) | (refine Fz.append (Fz.append ?_ ?_) ?_ <;> first | exact fz_self _ _ (fun _ => rfl) | exact fz_pl rfl))) | (simp only [Int.toNat_natCast, Nat.zero_add, Nat.mul_one]; rfl) | ((show @Eq (Option CV) _ _); rfl) | ((fail_if_success (show @Eq (Option _) _ _)); rfl) | ((show @Eq (Option _) _ _); simp only [List.getElem?_cons_zero, List.getElem?_cons_succ]; done) | ((show @Eq (Option _) _ _); simp only [List.getElem?_cons_zero, List.getElem?_cons_succ]; rfl) | with_reducible rfl)); conv => whnf))); exact Done.mk trivial))); conv => whnf)
      | (refine Pick.mk ?_ ?_ ?_; rotate_left; (focus (first | (with_reducible refine bk_kd ?_ ?_ <;> first | assumption | omega) | (with_reducible refine bk_of ?_ ?_ <;> first | assumption | omega) | ((show @Eq Nat (_ + Int.toNat _ * _) _); simp only [Int.toNat_natCast, Nat.zero_add, Nat.mul_one]; rfl) | (refine wid ?_ ?_ <;> omega) | (refine pick_int _ _ _ ?_ ?_ <;> omega) | ((show @Eq (Option _) _ _); simp only [List.getElem?_cons_zero, List.getElem?_cons_succ]; rfl))); conv => whnf)
      | (refine SeqJ.thru ?_; conv => whnf)
      | (refine br_dec (fun _ => ?_) (fun _ => ?_) <;> first | (exfalso; omega) | contradiction | conv => whnf)
      | (refine br_not ?_; conv => whnf)
      | (refine br_bne (fun _ => ?_) (fun _ => ?_) <;> first | (exfalso; omega) | contradiction | conv => whnf)
      | (refine br_beq (fun _ => ?_) (fun _ => ?_) <;> first | (exfalso; omega) | contradiction | conv => whnf))
     ·refine Out.mk false [0, 1, 2, 3, 4] [] ?_
      try (conv => whnf)
      exact ⟨.inr ⟨fun h => by have := (h.good.at hlt).2.1 (by omega); simp only [ep] at *; omega, rfl, rfl⟩⟩
     ·have hsame : ∀ a ∈ l.take i, a.obj = l[i].obj → thI a.kind = thI l[i].kind := (kd_iff (fun k => thI_ne) hg.ok hs hok).1 (by rw [← book_kd]; first | exact .inl (by assumption) | exact .inr (by omega))
      refine Hand.mk [] ?_
      try (conv => whnf)
      refine CallW.k (i_put (bookOf (l.take i)) wf l[i] ⟨a0, a1⟩ hob (by omega) (by rw [book_size]; simp; omega)) ?_
      try (conv => whnf)
      repeat (refine Pick.mk ?_ ?_ ?_; rotate_left; (focus ((refine wid ?_ ?_ <;> omega))); conv => whnf)
      refine Pick.mk (i + 1) ⟨⟨by omega, Good1.step hlt hg hok (fun _ => by simp only [ep] at *; omega) (by rw [← e1]; omega), by rw [List.take_succ_eq_append_getElem hlt]; exact hs.snoc hsame⟩, by omega⟩ (LeX.of ?_)
      try (conv => whnf)
      repeat (refine Need.mk ?_ ?_; (focus (first | omega | (simp; done) | rfl)); conv => whnf)
      refine Need.mk (by rw [bookOf_take hlt]) ?_
      try (conv => whnf)
      trivial
     ·refine Hand.mk [] ?_
      try (conv => whnf)
      refine CallW.d (i_thing l[i]) ?_
      try (conv => whnf)
      repeat (refine Need.mk ?_ ?_; (focus (((conv => whnf); (repeat (first | (refine Need.mk (by first | rfl | omega | (simp; done)) ?_; conv => whnf) | (refine Pick.mk ?_ ?_ ?_; rotate_left; (focus (first | with_reducible exact xor_u8 _ _ | (with_reducible refine xor_i64 ?_ ?_; all_goals omega) | (with_reducible refine xor_u32 ?_ ?_; all_goals omega) | (refine bk_top ?_; assumption) | (with_reducible refine bk_size ?_; assumption) | (with_reducible refine bk_kd ?_ ?_ <;> first | assumption | omega) | (with_reducible refine bk_of ?_ ?_ <;> first | assumption | omega) | assumption | with_reducible exact set_byN _ _ _ _ | with_reducible exact set_byI _ _ _ _ | with_reducible exact set_inN _ _ _ _ | with_reducible exact set_inI _ _ _ _ | with_reducible exact set_stN _ _ _ _ | with_reducible exact set_tsN _ _ _ _ | with_reducible exact set_tsI _ _ _ _ | with_reducible exact set_boN _ _ _ _ | with_reducible exact set_boI _ _ _ _ | (with_reducible refine get_mapN _ _ _ ?_; first | omega | (simp; omega)) | (with_reducible refine get_mapI _ _ _ ?_ ?_ <;> first | omega | (simp; omega)) | exact bs_beq _ _ | exact bs_less _ _ | exact bs_leq _ _ | with_reducible exact bs_app _ _ | (refine bs_get _ _ ?_; omega) | (refine bs_int _ _ ?_ ?_ <;> omega) | with_reducible exact sl_map0 _ _ _ | with_reducible exact sl_mapN _ _ _ | with_reducible exact sl_map _ _ _ _ | exact bs_extract0 _ _ | exact bs_extractN _ _ | exact bs_extract _ _ _ | (refine bnd_id ?_; omega) | (refine bnd_sub ?_ ?_ <;> omega) | (refine bnd_add ?_; omega) | (refine bnd_subN ?_ ?_ <;> omega) | (refine bnd_int ?_ ?_ <;> omega) | ((show @Eq Nat (_ + Int.toNat _ * _) _); simp only [Int.toNat_natCast, Nat.zero_add, Nat.mul_one]; rfl) | ((show @Eq (List _) (List.set [_] _ _) _); simp only [List.set_cons_zero]; rfl) | exact List.length_map _ | exact size_bs _ | (simp only [List.length_map, List.length_append, List.length_cons, List.length_nil, List.length_replicate, Nat.zero_add]; rfl) | with_reducible exact List.nil_append _ | with_reducible exact map_app _ _ _ | exact map_snoc byD _ _ | exact map_snoc inD _ _ | exact map_snoc stD _ _ | exact map_snoc tsD _ _ | (simp only [chunks]; rfl) | (refine wid ?_ ?_ <;> omega) | exact wby _ | with_reducible exact wby32 _ | with_reducible exact wu32 _ | exact wby64 _ | exact shr8 _ | exact shr16 _ | exact shr24 _ | exact shr32 _ | (refine tmodn ?_; omega) | (refine wdiv ?_ ?_ ?_ <;> omega) | exact wbyte _ | exact natlit _ | exact rep_by _ | exact rep_in _ | exact rep_bo _ | exact rep_st _ | (refine pick_nat _ _ _ ?_; omega) | (refine pick_int _ _ _ ?_ ?_ <;> omega) | (refine SlOf.full ?_; first | (simp; done) | (simp; omega)) | (with_reducible refine SlOf.pre _ _ ?_; first | omega | (simp; omega)) | (refine SlF.self _ _ ?_ ?_; (first | rfl | omega | (simp; done) | (simp; omega)); (exact fun _ => rfl)) | (refine SlF.pre _ _ ?_ ?_; (first | omega | (simp; omega)); (exact fun _ => rfl)) | (refine SlF.same ?_ ?_; (first | rfl | omega | (simp; done) | (simp; omega)); (first | exact fz_self _ _ (fun _ => rfl) | exact fz_pl rfl | (refine Fz.append ?_ ?_ <;> first | exact fz_self _ _ (fun _ => rfl) | exact fz_pl rfl) | (refine Fz.append (Fz.append ?_ ?_) ?_ <;> first | exact fz_self _ _ (fun _ => rfl) | exact fz_pl rfl))) | (simp only [Int.toNat_natCast, Nat.zero_add, Nat.mul_one]; rfl) | ((show @Eq (Option CV) _ _); rfl) | ((fail_if_success (show @Eq (Option _) _ _)); rfl) | ((show @Eq (Option _) _ _); simp only [List.getElem?_cons_zero, List.getElem?_cons_succ]; done) | ((show @Eq (Option _) _ _); simp only [List.getElem?_cons_zero, List.getElem?_cons_succ]; rfl) | with_reducible rfl)); conv => whnf))); exact Done.mk trivial))); conv => whnf)
      try (conv => whnf)
      repeat' (first
       | (refine br_dec (fun _ => ?_) (fun _ => ?_) <;> first | (exfalso; omega) | contradiction | conv => whnf)
       | (refine br_not ?_; conv => whnf)
       | (refine br_bne (fun _ => ?_) (fun _ => ?_) <;> first | (exfalso; omega) | contradiction | conv => whnf)
       | (refine br_beq (fun _ => ?_) (fun _ => ?_) <;> first | (exfalso; omega) | contradiction | conv => whnf))
      rotate_left
      ·refine Out.mk false [0, 1, 2, 3, 4] [] ?_
       try (conv => whnf)
       exact ⟨.inr ⟨fun h => by
        have := (kd_iff (fun k => thI_ne) hg.ok hs hok).2 (SameTh.of_snoc (h.same.sub (m := l.take i ++ [l[i]]) (fun o ho => by rw [← List.take_succ_eq_append_getElem hlt] at ho; exact List.mem_of_mem_take ho)))
        rw [← book_kd] at this; omega, rfl, rfl⟩⟩
      ·have hsame : ∀ a ∈ l.take i, a.obj = l[i].obj → thI a.kind = thI l[i].kind := (kd_iff (fun k => thI_ne) hg.ok hs hok).1 (by rw [← book_kd]; first | exact .inl (by assumption) | exact .inr (by omega))
       refine Hand.mk [] ?_
       try (conv => whnf)
       refine CallW.k (i_put (bookOf (l.take i)) wf l[i] ⟨a0, a1⟩ hob (by omega) (by rw [book_size]; simp; omega)) ?_
       try (conv => whnf)
       repeat (refine Pick.mk ?_ ?_ ?_; rotate_left; (focus ((refine wid ?_ ?_ <;> omega))); conv => whnf)
       refine Pick.mk (i + 1) ⟨⟨by omega, Good1.step hlt hg hok (fun _ => by simp only [ep] at *; omega) (by rw [← e1]; omega), by rw [List.take_succ_eq_append_getElem hlt]; exact hs.snoc hsame⟩, by omega⟩ (LeX.of ?_)
       try (conv => whnf)
       repeat (refine Need.mk ?_ ?_; (focus (first | omega | (simp; done) | rfl)); conv => whnf)
       refine Need.mk (by rw [bookOf_take hlt]) ?_
       try (conv => whnf)
       trivial
     ·refine Out.mk false [0, 1, 2, 3, 4] [] ?_
      try (conv => whnf)
      exact ⟨.inr ⟨fun h => by have := (h.good.at hlt).2.2; rw [← e1] at this; omega, rfl, rfl⟩⟩
     ·have hsame : ∀ a ∈ l.take i, a.obj = l[i].obj → thI a.kind = thI l[i].kind := (kd_iff (fun k => thI_ne) hg.ok hs hok).1 (by rw [← book_kd]; first | exact .inl (by assumption) | exact .inr (by omega))
      refine Hand.mk [] ?_
      try (conv => whnf)
      refine CallW.k (i_put (bookOf (l.take i)) wf l[i] ⟨a0, a1⟩ hob (by omega) (by rw [book_size]; simp; omega)) ?_
      try (conv => whnf)
      repeat (refine Pick.mk ?_ ?_ ?_; rotate_left; (focus ((refine wid ?_ ?_ <;> omega))); conv => whnf)
      refine Pick.mk (i + 1) ⟨⟨by omega, Good1.step hlt hg hok (fun _ => by simp only [ep] at *; omega) (by rw [← e1]; omega), by rw [List.take_succ_eq_append_getElem hlt]; exact hs.snoc hsame⟩, by omega⟩ (LeX.of ?_)
      try (conv => whnf)
      repeat (refine Need.mk ?_ ?_; (focus (first | omega | (simp; done) | rfl)); conv => whnf)
      refine Need.mk (by rw [bookOf_take hlt]) ?_
      try (conv => whnf)
      trivial
     ·refine Hand.mk [] ?_
      try (conv => whnf)
      refine CallW.d (i_thing l[i]) ?_
      try (conv => whnf)
      repeat (refine Need.mk ?_ ?_; (focus (((conv => whnf); (repeat (first | (refine Need.mk (by first | rfl | omega | (simp; done)) ?_; conv => whnf) | (refine Pick.mk ?_ ?_ ?_; rotate_left; (focus (first | with_reducible exact xor_u8 _ _ | (with_reducible refine xor_i64 ?_ ?_; all_goals omega) | (with_reducible refine xor_u32 ?_ ?_; all_goals omega) | (refine bk_top ?_; assumption) | (with_reducible refine bk_size ?_; assumption) | (with_reducible refine bk_kd ?_ ?_ <;> first | assumption | omega) | (with_reducible refine bk_of ?_ ?_ <;> first | assumption | omega) | assumption | with_reducible exact set_byN _ _ _ _ | with_reducible exact set_byI _ _ _ _ | with_reducible exact set_inN _ _ _ _ | with_reducible exact set_inI _ _ _ _ | with_reducible exact set_stN _ _ _ _ | with_reducible exact set_tsN _ _ _ _ | with_reducible exact set_tsI _ _ _ _ | with_reducible exact set_boN _ _ _ _ | with_reducible exact set_boI _ _ _ _ | (with_reducible refine get_mapN _ _ _ ?_; first | omega | (simp; omega)) | (with_reducible refine get_mapI _ _ _ ?_ ?_ <;> first | omega | (simp; omega)) | exact bs_beq _ _ | exact bs_less _ _ | exact bs_leq _ _ | with_reducible exact bs_app _ _ | (refine bs_get _ _ ?_; omega) | (refine bs_int _ _ ?_ ?_ <;> omega) | with_reducible exact sl_map0 _ _ _ | with_reducible exact sl_mapN _ _ _ | with_reducible exact sl_map _ _ _ _ | exact bs_extract0 _ _ | exact bs_extractN _ _ | exact bs_extract _ _ _ | (refine bnd_id ?_; omega) | (refine bnd_sub ?_ ?_ <;> omega) | (refine bnd_add ?_; omega) | (refine bnd_subN ?_ ?_ <;> omega) | (refine bnd_int ?_ ?_ <;> omega) | ((show @Eq Nat (_ + Int.toNat _ * _) _); simp only [Int.toNat_natCast, Nat.zero_add, Nat.mul_one]; rfl) | ((show @Eq (List _) (List.set [_] _ _) _); simp only [List.set_cons_zero]; rfl) | exact List.length_map _ | exact size_bs _ | (simp only [List.length_map, List.length_append, List.length_cons, List.length_nil, List.length_replicate, Nat.zero_add]; rfl) | with_reducible exact List.nil_append _ | with_reducible exact map_app _ _ _ | exact map_snoc byD _ _ | exact map_snoc inD _ _ | exact map_snoc stD _ _ | exact map_snoc tsD _ _ | (simp only [chunks]; rfl) | (refine wid ?_ ?_ <;> omega) | exact wby _ | with_reducible exact wby32 _ | with_reducible exact wu32 _ | exact wby64 _ | exact shr8 _ | exact shr16 _ | exact shr24 _ | exact shr32 _ | (refine tmodn ?_; omega) | (refine wdiv ?_ ?_ ?_ <;> omega) | exact wbyte _ | exact natlit _ | exact rep_by _ | exact rep_in _ | exact rep_bo _ | exact rep_st _ | (refine pick_nat _ _ _ ?_; omega) | (refine pick_int _ _ _ ?_ ?_ <;> omega) | (refine SlOf.full ?_; first | (simp; done) | (simp; omega)) | (with_reducible refine SlOf.pre _ _ ?_; first | omega | (simp; omega)) | (refine SlF.self _ _ ?_ ?_; (first | rfl | omega | (simp; done) | (simp; omega)); (exact fun _ => rfl)) | (refine SlF.pre _ _ ?_ ?_; (first | omega | (simp; omega)); (exact fun _ => rfl)) | (refine SlF.same ?_ ?_; (first | rfl | omega | (simp; done) | (simp; omega)); (first | exact fz_self _ _ (fun _ => rfl) | exact fz_pl rfl | (refine Fz.append ?_ ?_ <;> first | exact fz_self _ _ (fun _ => rfl) | exact fz_pl rfl) | (refine Fz.append (Fz.append ?_ ?_) ?_ <;> first | exact fz_self _ _ (fun _ => rfl) | exact fz_pl rfl))) | (simp only [Int.toNat_natCast, Nat.zero_add, Nat.mul_one]; rfl) | ((show @Eq (Option CV) _ _); rfl) | ((fail_if_success (show @Eq (Option _) _ _)); rfl) | ((show @Eq (Option _) _ _); simp only [List.getElem?_cons_zero, List.getElem?_cons_succ]; done) | ((show @Eq (Option _) _ _); simp only [List.getElem?_cons_zero, List.getElem?_cons_succ]; rfl) | with_reducible rfl)); conv => whnf))); exact Done.mk trivial))); conv => whnf)
      try (conv => whnf)
      repeat' (first
       | (refine br_dec (fun _ => ?_) (fun _ => ?_) <;> first | (exfalso; omega) | contradiction | conv => whnf)
       | (refine br_not ?_; conv => whnf)
       | (refine br_bne (fun _ => ?_) (fun _ => ?_) <;> first | (exfalso; omega) | contradiction | conv => whnf)
       | (refine br_beq (fun _ => ?_) (fun _ => ?_) <;> first | (exfalso; omega) | contradiction | conv => whnf))
      rotate_left
      ·refine Out.mk false [0, 1, 2, 3, 4] [] ?_
       try (conv => whnf)
       exact ⟨.inr ⟨fun h => by
        have := (kd_iff (fun k => thI_ne) hg.ok hs hok).2 (SameTh.of_snoc (h.same.sub (m := l.take i ++ [l[i]]) (fun o ho => by rw [← List.take_succ_eq_append_getElem hlt] at ho; exact List.mem_of_mem_take ho)))
        rw [← book_kd] at this; omega, rfl, rfl⟩⟩
      ·have hsame : ∀ a ∈ l.take i, a.obj = l[i].obj → thI a.kind = thI l[i].kind := (kd_iff (fun k => thI_ne) hg.ok hs hok).1 (by rw [← book_kd]; first | exact .inl (by assumption) | exact .inr (by omega))
       refine Hand.mk [] ?_
       try (conv => whnf)
       refine CallW.k (i_put (bookOf (l.take i)) wf l[i] ⟨a0, a1⟩ hob (by omega) (by rw [book_size]; simp; omega)) ?_
       try (conv => whnf)
       repeat (refine Pick.mk ?_ ?_ ?_; rotate_left; (focus ((refine wid ?_ ?_ <;> omega))); conv => whnf)
       refine Pick.mk (i + 1) ⟨⟨by omega, Good1.step hlt hg hok (fun _ => by simp only [ep] at *; omega) (by rw [← e1]; omega), by rw [List.take_succ_eq_append_getElem hlt]; exact hs.snoc hsame⟩, by omega⟩ (LeX.of ?_)
       try (conv => whnf)
       repeat (refine Need.mk ?_ ?_; (focus (first | omega | (simp; done) | rfl)); conv => whnf)
       refine Need.mk (by rw [bookOf_take hlt]) ?_
       try (conv => whnf)
       trivial
     ·refine Out.mk false [0, 1, 2, 3, 4] [] ?_
      try (conv => whnf)
      exact ⟨.inr ⟨fun h => by have := (h.good.at hlt).2.2; rw [← e1] at this; omega, rfl, rfl⟩⟩
    ·refine Hand.mk [] ?_
     try (conv => whnf)
     refine CallW.d (i_opOK l[i] hk ht) ?_
     try (conv => whnf)
     try (conv => whnf)
     repeat' (first
      | (refine br_dec (fun _ => ?_) (fun _ => ?_) <;> first | (exfalso; omega) | contradiction | conv => whnf)
      | (refine br_not ?_; conv => whnf)
      | (refine br_bne (fun _ => ?_) (fun _ => ?_) <;> first | (exfalso; omega) | contradiction | conv => whnf)
      | (refine br_beq (fun _ => ?_) (fun _ => ?_) <;> first | (exfalso; omega) | contradiction | conv => whnf))
     refine Out.mk false [0, 1, 2, 3, 4] [] ?_
     try (conv => whnf)
     exact ⟨.inr ⟨fun h => hok (h.good.at hlt).1, rfl, rfl⟩⟩
   ·have e : l.take i = l := List.take_of_length_le (by omega)
    have hgl : Good1 l l.length := by
     have e9 : i = l.length := by omega
     rwa [e9] at hg
    have hsl : SameTh thI l := by rwa [e] at hs
    have wf := bookOf_wf l
    refine LoopE.mk (fun i : Nat => mk [(0, vL l), (79, vL l), (80, vI .i64 l.length), (81, vI .i64 i), (4, .one (.ep (.v 16400) 120 0 0))] [(16400, .own 120 [bookD (bookOf l)])])
     (fun i => i ≤ l.length ∧ ∀ o ∈ l.take i, Cause l o) (fun i => l.length - i) 0 ⟨by omega, by simp⟩ (LeX.of ?_) ?_
    ·try (conv => whnf)
     repeat (refine Need.mk ?_ ?_; (focus (first | omega | (simp; done))); conv => whnf)
     refine Need.mk (by rw [e]) ?_
     try (conv => whnf)
     trivial
    ·rintro i ⟨hi, hc⟩
     try (conv => whnf)
     repeat' (first
      | (refine Pick.mk ?_ ?_ ?_; rotate_left; (focus (first | exact List.length_map _ | (refine pick_nat _ _ _ ?_; omega))); conv => whnf)
      | (refine SeqJ.thru ?_; conv => whnf)
      | (refine br_dec (fun _ => ?_) (fun _ => ?_) <;> first | (exfalso; omega) | contradiction | conv => whnf)
      | (refine br_not ?_; conv => whnf)
      | (refine br_bne (fun _ => ?_) (fun _ => ?_) <;> first | (exfalso; omega) | contradiction | conv => whnf)
      | (refine br_beq (fun _ => ?_) (fun _ => ?_) <;> first | (exfalso; omega) | contradiction | conv => whnf))
     ·have hlt : i < l.length := by omega
      have hok := (hgl.at hlt).1
      have hvl := hok.vec.1
      refine LoopE.mk (fun j : Nat => mk [(0, vL l), (87, vN l[i].deps), (88, vI .i64 l[i].deps.length), (89, vI .i64 j), (8, .one (.ptr 65568 0)), (79, vL l), (80, vI .i64 l.length), (81, vI .i64 i), (4, .one (.ep (.v 16400) 120 0 0))] [(16400, .own 120 [bookD (bookOf l)]), (65568, .box (opC l[i]))])
       (fun j => j ≤ l[i].deps.length ∧ ∀ a : Nat, a < j → CauseAt l l[i] a) (fun j => l[i].deps.length - j) 0 ⟨by omega, fun a h => by omega⟩ (LeX.of ?_) ?_
      ·try (conv => whnf)
       repeat (refine Need.mk ?_ ?_; (focus (first | omega | (simp; done))); conv => whnf)
       trivial
      ·rintro j ⟨hj, hca⟩
       by_cases hjl : j < l[i].deps.length
       ·have e1 := book_of (a := j) (by omega) l hgl.all
        have e3 : l[i].deps.getD j 0 = l[i].deps[j] := by simp [List.getD, hjl]
        obtain ⟨c0, c1⟩ := hok.vec.2 _ (List.getElem_mem hjl)
        have step : CauseAt l l[i] j → ∀ a : Nat, a < j + 1 → CauseAt l l[i] a := fun h a ha => by
         rcases Nat.lt_or_ge a j with g | g
         ·exact hca a g
         ·obtain rfl : a = j := by omega
          exact h
        try (conv => whnf)
        repeat' (first
         | (refine Need.mk ?_ ?_; (focus (first | omega | ((conv => whnf); (repeat (first | (refine Need.mk (by first | rfl | omega | (simp; done)) ?_; conv => whnf) | (refine Pick.mk ?_ ?_ ?_; rotate_left; (focus (first | with_reducible exact xor_u8 _ _ | (with_reducible refine xor_i64 ?_ ?_; all_goals omega) | (with_reducible refine xor_u32 ?_ ?_; all_goals omega) | (refine bk_top ?_; assumption) | (with_reducible refine bk_size ?_; assumption) | (with_reducible refine bk_kd ?_ ?_ <;> first | assumption | omega) | (with_reducible refine bk_of ?_ ?_ <;> first | assumption | omega) | assumption | with_reducible exact set_byN _ _ _ _ | with_reducible exact set_byI _ _ _ _ | with_reducible exact set_inN _ _ _ _ | with_reducible exact set_inI _ _ _ _ | with_reducible exact set_stN _ _ _ _ | with_reducible exact set_tsN _ _ _ _ | with_reducible exact set_tsI _ _ _ _ | with_reducible exact set_boN _ _ _ _ | with_reducible exact set_boI _ _ _ _ | (with_reducible refine get_mapN _ _ _ ?_; first | omega | (simp; omega)) | (with_reducible refine get_mapI _ _ _ ?_ ?_ <;> first | omega | (simp; omega)) | exact bs_beq _ _ | exact bs_less _ _ | exact bs_leq _ _ | with_reducible exact bs_app _ _ | (refine bs_get _ _ ?_; omega) | (refine bs_int _ _ ?_ ?_ <;> omega) | with_reducible exact sl_map0 _ _ _ | with_reducible exact sl_mapN _ _ _ | with_reducible exact sl_map _ _ _ _ | exact bs_extract0 _ _ | exact bs_extractN _ _ | exact bs_extract _ _ _ | (refine bnd_id ?_; omega) | (refine bnd_sub ?_ ?_ <;> omega) | (refine bnd_add ?_; omega) | (refine bnd_subN ?_ ?_ <;> omega) | (refine bnd_int ?_ ?_ <;> omega) | ((show @Eq Nat (_ + Int.toNat _ * _) _); simp only [Int.toNat_natCast, Nat.zero_add, Nat.mul_one]; rfl) | ((show @Eq (List _) (List.set [_] _ _) _); simp only [List.set_cons_zero]; rfl) | exact List.length_map _ | exact size_bs _ | (simp only [List.length_map, List.length_append, List.length_cons, List.length_nil, List.length_replicate, Nat.zero_add]; rfl) | with_reducible exact List.nil_append _ | with_reducible exact map_app _ _ _ | exact map_snoc byD _ _ | exact map_snoc inD _ _ | exact map_snoc stD _ _ | exact map_snoc tsD _ _ | (simp only [chunks]; rfl) | (refine wid ?_ ?_ <;> omega) | exact wby _ | with_reducible exact wby32 _ | with_reducible exact wu32 _ | exact wby64 _ | exact shr8 _ | exact shr16 _ | exact shr24 _ | exact shr32 _ | (refine tmodn ?_; omega) | (refine wdiv ?_ ?_ ?_ <;> omega) | exact wbyte _ | exact natlit _ | exact rep_by _ | exact rep_in _ | exact rep_bo _ | exact rep_st _ | (refine pick_nat _ _ _ ?_; omega) | (refine pick_int _ _ _ ?_ ?_ <;> omega) | (refine SlOf.full ?_; first | (simp; done) | (simp; omega)) | (with_reducible refine SlOf.pre _ _ ?_; first | omega | (simp; omega)) | (refine SlF.self _ _ ?_ ?_; (first | rfl | omega | (simp; done) | (simp; omega)); (exact fun _ => rfl)) | (refine SlF.pre _ _ ?_ ?_; (first | omega | (simp; omega)); (exact fun _ => rfl)) | (refine SlF.same ?_ ?_; (first | rfl | omega | (simp; done) | (simp; omega)); (first | exact fz_self _ _ (fun _ => rfl) | exact fz_pl rfl | (refine Fz.append ?_ ?_ <;> first | exact fz_self _ _ (fun _ => rfl) | exact fz_pl rfl) | (refine Fz.append (Fz.append ?_ ?_) ?_ <;> first | exact fz_self _ _ (fun _ => rfl) | exact fz_pl rfl))) | (simp only [Int.toNat_natCast, Nat.zero_add, Nat.mul_one]; rfl) | ((show @Eq (Option CV) _ _); rfl) | ((fail_if_success (show @Eq (Option _) _ _)); rfl) | ((show @Eq (Option _) _ _); simp only [List.getElem?_cons_zero, List.getElem?_cons_succ]; done) | ((show @Eq (Option _) _ _); simp only [List.getElem?_cons_zero, List.getElem?_cons_succ]; rfl) | with_reducible rfl)); conv => whnf))); exact Done.mk trivial))); conv => whnf)
         | (refine Pick.mk ?_ ?_ ?_; rotate_left; (focus (first | (with_reducible refine bk_of ?_ ?_ <;> first | assumption | omega) | (with_reducible refine get_mapI _ _ _ ?_ ?_ <;> first | omega | (simp; omega)) | ((show @Eq Nat (_ + Int.toNat _ * _) _); simp only [Int.toNat_natCast, Nat.zero_add, Nat.mul_one]; rfl) | (refine wid ?_ ?_ <;> omega) | (refine pick_nat _ _ _ ?_; omega) | ((show @Eq (Option _) _ _); simp only [List.getElem?_cons_zero, List.getElem?_cons_succ]; rfl))); conv => whnf)
         | (refine SeqJ.thru ?_; conv => whnf)
         | (refine br_dec (fun _ => ?_) (fun _ => ?_) <;> first | (exfalso; omega) | contradiction | conv => whnf)
         | (refine br_not ?_; conv => whnf)
         | (refine br_bne (fun _ => ?_) (fun _ => ?_) <;> first | (exfalso; omega) | contradiction | conv => whnf)
         | (refine br_beq (fun _ => ?_) (fun _ => ?_) <;> first | (exfalso; omega) | contradiction | conv => whnf))
        ·refine Out.mk false [0, 1, 2, 3, 4] [] ?_
         try (conv => whnf)
         exact ⟨.inr ⟨fun h => by have := (h.cause _ (List.getElem_mem hlt) j (by omega)).1; rw [e3, ← e1] at this; omega, rfl, rfl⟩⟩
        ·have e4 : (own l j)[(l[i].deps.getD j 0 - 1).toNat]? = some (((bookOf l).of.getD j [])[(l[i].deps[j] - 1).toNat]'(by omega)) := by rw [e3, ← e1]; exact List.getElem?_eq_getElem _
         refine Hand.mk [] ?_
         try (conv => whnf)
         refine CallW.d (i_stamp (((bookOf l).of.getD j [])[(l[i].deps[j] - 1).toNat]'(by omega))) ?_
         try (conv => whnf)
         repeat (refine Need.mk ?_ ?_; (focus (((conv => whnf); (repeat (first | (refine Need.mk (by first | rfl | omega | (simp; done)) ?_; conv => whnf) | (refine Pick.mk ?_ ?_ ?_; rotate_left; (focus (first | with_reducible exact xor_u8 _ _ | (with_reducible refine xor_i64 ?_ ?_; all_goals omega) | (with_reducible refine xor_u32 ?_ ?_; all_goals omega) | (refine bk_top ?_; assumption) | (with_reducible refine bk_size ?_; assumption) | (with_reducible refine bk_kd ?_ ?_ <;> first | assumption | omega) | (with_reducible refine bk_of ?_ ?_ <;> first | assumption | omega) | assumption | with_reducible exact set_byN _ _ _ _ | with_reducible exact set_byI _ _ _ _ | with_reducible exact set_inN _ _ _ _ | with_reducible exact set_inI _ _ _ _ | with_reducible exact set_stN _ _ _ _ | with_reducible exact set_tsN _ _ _ _ | with_reducible exact set_tsI _ _ _ _ | with_reducible exact set_boN _ _ _ _ | with_reducible exact set_boI _ _ _ _ | (with_reducible refine get_mapN _ _ _ ?_; first | omega | (simp; omega)) | (with_reducible refine get_mapI _ _ _ ?_ ?_ <;> first | omega | (simp; omega)) | exact bs_beq _ _ | exact bs_less _ _ | exact bs_leq _ _ | with_reducible exact bs_app _ _ | (refine bs_get _ _ ?_; omega) | (refine bs_int _ _ ?_ ?_ <;> omega) | with_reducible exact sl_map0 _ _ _ | with_reducible exact sl_mapN _ _ _ | with_reducible exact sl_map _ _ _ _ | exact bs_extract0 _ _ | exact bs_extractN _ _ | exact bs_extract _ _ _ | (refine bnd_id ?_; omega) | (refine bnd_sub ?_ ?_ <;> omega) | (refine bnd_add ?_; omega) | (refine bnd_subN ?_ ?_ <;> omega) | (refine bnd_int ?_ ?_ <;> omega) | ((show @Eq Nat (_ + Int.toNat _ * _) _); simp only [Int.toNat_natCast, Nat.zero_add, Nat.mul_one]; rfl) | ((show @Eq (List _) (List.set [_] _ _) _); simp only [List.set_cons_zero]; rfl) | exact List.length_map _ | exact size_bs _ | (simp only [List.length_map, List.length_append, List.length_cons, List.length_nil, List.length_replicate, Nat.zero_add]; rfl) | with_reducible exact List.nil_append _ | with_reducible exact map_app _ _ _ | exact map_snoc byD _ _ | exact map_snoc inD _ _ | exact map_snoc stD _ _ | exact map_snoc tsD _ _ | (simp only [chunks]; rfl) | (refine wid ?_ ?_ <;> omega) | exact wby _ | with_reducible exact wby32 _ | with_reducible exact wu32 _ | exact wby64 _ | exact shr8 _ | exact shr16 _ | exact shr24 _ | exact shr32 _ | (refine tmodn ?_; omega) | (refine wdiv ?_ ?_ ?_ <;> omega) | exact wbyte _ | exact natlit _ | exact rep_by _ | exact rep_in _ | exact rep_bo _ | exact rep_st _ | (refine pick_nat _ _ _ ?_; omega) | (refine pick_int _ _ _ ?_ ?_ <;> omega) | (refine SlOf.full ?_; first | (simp; done) | (simp; omega)) | (with_reducible refine SlOf.pre _ _ ?_; first | omega | (simp; omega)) | (refine SlF.self _ _ ?_ ?_; (first | rfl | omega | (simp; done) | (simp; omega)); (exact fun _ => rfl)) | (refine SlF.pre _ _ ?_ ?_; (first | omega | (simp; omega)); (exact fun _ => rfl)) | (refine SlF.same ?_ ?_; (first | rfl | omega | (simp; done) | (simp; omega)); (first | exact fz_self _ _ (fun _ => rfl) | exact fz_pl rfl | (refine Fz.append ?_ ?_ <;> first | exact fz_self _ _ (fun _ => rfl) | exact fz_pl rfl) | (refine Fz.append (Fz.append ?_ ?_) ?_ <;> first | exact fz_self _ _ (fun _ => rfl) | exact fz_pl rfl))) | (simp only [Int.toNat_natCast, Nat.zero_add, Nat.mul_one]; rfl) | ((show @Eq (Option CV) _ _); rfl) | ((fail_if_success (show @Eq (Option _) _ _)); rfl) | ((show @Eq (Option _) _ _); simp only [List.getElem?_cons_zero, List.getElem?_cons_succ]; done) | ((show @Eq (Option _) _ _); simp only [List.getElem?_cons_zero, List.getElem?_cons_succ]; rfl) | with_reducible rfl)); conv => whnf))); exact Done.mk trivial))); conv => whnf)
         refine Hand.mk [] ?_
         try (conv => whnf)
         refine CallW.d (i_stamp l[i]) ?_
         try (conv => whnf)
         refine Hand.mk [] ?_
         try (conv => whnf)
         refine CallW.d (i_StampLess _ _ l[i].time l[i].actor) ?_
         try (conv => whnf)
         try (conv => whnf)
         repeat' (first
          | (refine Pick.mk ?_ ?_ ?_; rotate_left; (focus ((refine wid ?_ ?_ <;> omega))); conv => whnf)
          | (refine br_dec (fun _ => ?_) (fun _ => ?_) <;> first | (exfalso; omega) | contradiction | conv => whnf)
          | (refine br_not ?_; conv => whnf)
          | (refine br_bne (fun _ => ?_) (fun _ => ?_) <;> first | (exfalso; omega) | contradiction | conv => whnf)
          | (refine br_beq (fun _ => ?_) (fun _ => ?_) <;> first | (exfalso; omega) | contradiction | conv => whnf))
         ·rename_i hst
          refine Pick.mk (j + 1) ⟨⟨by omega, step ⟨by rw [e3, ← e1]; omega, fun _ p hp => by rw [e4] at hp; injection hp with hp; subst hp; exact hst⟩⟩, by omega⟩ (LeX.of ?_)
          try (conv => whnf)
          repeat (refine Need.mk ?_ ?_; (focus (first | omega | (simp; done))); conv => whnf)
          trivial
         ·rename_i hst
          refine Out.mk false [0, 1, 2, 3, 4] [] ?_
          try (conv => whnf)
          exact ⟨.inr ⟨fun h => hst ((h.cause _ (List.getElem_mem hlt) j (by omega)).2 (by rw [e3]; omega) _ e4), rfl, rfl⟩⟩
        ·refine Pick.mk (j + 1) ⟨⟨by omega, step ⟨by rw [e3, ← e1]; omega, fun h => by rw [e3] at h; omega⟩⟩, by omega⟩ (LeX.of ?_)
         try (conv => whnf)
         repeat (refine Need.mk ?_ ?_; (focus (first | omega | (simp; done))); conv => whnf)
         trivial
       ·try (conv => whnf)
        repeat' (first
         | (refine Pick.mk ?_ ?_ ?_; rotate_left; (focus ((refine wid ?_ ?_ <;> omega))); conv => whnf)
         | (refine SeqJ.thru ?_; conv => whnf)
         | (refine br_dec (fun _ => ?_) (fun _ => ?_) <;> first | (exfalso; omega) | contradiction | conv => whnf)
         | (refine br_not ?_; conv => whnf)
         | (refine br_bne (fun _ => ?_) (fun _ => ?_) <;> first | (exfalso; omega) | contradiction | conv => whnf)
         | (refine br_beq (fun _ => ?_) (fun _ => ?_) <;> first | (exfalso; omega) | contradiction | conv => whnf))
        refine Pick.mk (i + 1) ⟨⟨by omega, all_next hlt hc fun a ha => hca a (by omega)⟩, by omega⟩ (LeX.of ?_)
        try (conv => whnf)
        repeat (refine Need.mk ?_ ?_; (focus (first | omega | (simp; done))); conv => whnf)
        trivial
     ·refine Out.mk false [0, 1, 2, 3, 4] [] ?_
      try (conv => whnf)
      exact ⟨.inl ⟨⟨by omega, hgl, hsl, by rwa [List.take_of_length_le (by omega)] at hc⟩, rfl, rfl⟩⟩
end Go.Proofs.Ytpdjehnlejjfmaa.D
/- What a log has that a vector lacks. -/
namespace Go.Proofs.Ytpdjehnlejjfmaa.D
open Go.RowKit
set_option maxRecDepth 100000
set_option maxHeartbeats 4000000
set_option linter.unusedVariables false
set_option linter.unusedSimpArgs false

def actsL (l : List OpV) (a : Nat) : List OpV := (List.range a).flatMap fun i : Nat => own l i
theorem actsL_succ (l : List OpV) (a : Nat) : actsL l (a + 1) = actsL l a ++ own l a := by simp [actsL, List.range_succ, List.flatMap_append]
theorem acts_all : ∀ (n : Nat) (l : List OpV), l.Pairwise (fun x y => x.actor ≤ y.actor) → (∀ o ∈ l, 0 ≤ o.actor ∧ o.actor < n) → actsL l n = l
 |0, l, _, h => by
  cases l with
  | nil => rfl
  | cons o l => have := h o (by simp); omega
 |n + 1, l, hs, h => by
  obtain ⟨p, q, e, hp, hq⟩ := split_own l n hs
  have hq0 : q = [] := by
   cases q with
   | nil => rfl
   | cons x q =>
    have h1 := hq x (by simp)
    have h2 := h x (by rw [e]; simp)
    omega
  subst hq0
  rw [List.append_nil] at e
  have hm : ∀ o ∈ own l n, o.actor = n := fun o ho => by simpa using (List.mem_filter.1 ho).2
  have hpl : ∀ o ∈ p, o ∈ l := fun o ho => by rw [e]; simp [ho]
  have ih := acts_all n p (by rw [e] at hs; exact (List.pairwise_append.1 hs).1) fun o ho => ⟨(h o (hpl o ho)).1, hp o ho⟩
  have hpre : ∀ k, k ≤ n → actsL l k = actsL p k := by
   intro k
   induction k with
   | zero => intro _; rfl
   | succ k ih2 =>
    intro hk
    rw [actsL_succ, actsL_succ, ih2 (by omega)]
    congr 1
    conv => lhs; rw [e, own_append]
    have : own (own l n) k = [] := by
     rw [own, List.filter_eq_nil_iff]
     intro o ho
     have := hm o ho
     simp; omega
    rw [this, List.append_nil]
  rw [actsL_succ, hpre n (Nat.le_refl _), ih]; exact e.symm
theorem LogOk.acts {l : List OpV} (h : LogOk l) : actsL l 16 = l := acts_all 16 l h.good.sorted fun o ho => (h.good.all o ho).st.2
def newP (v : List Int) (o : OpV) : Bool := decide (o.seq > v.getD o.actor.toNat 0)
def sinceL (l : List OpV) (v : List Int) : List OpV := l.filter (newP v)
noncomputable def sinceR (l : List OpV) (v : List Int) : List OpV := if LogOk l ∧ VecOk v then sinceL l v else []
noncomputable def sinceC (l : List OpV) (v : List Int) : Int := if LogOk l ∧ VecOk v then 0 else 1
theorem filter_snoc {l : List OpV} {p : OpV → Bool} {i : Nat} (h : i < l.length) : (l.take (i + 1)).filter p = (l.take i).filter p ++ if p l[i] then [l[i]] else [] := by
 rw [List.take_succ_eq_append_getElem h, List.filter_append]
 congr 1
 by_cases hp : p l[i] <;> simp [hp]
theorem s_LogSince (l : List OpV) (v : List Int) (hw : ∀ o ∈ l, o.key.length ≤ 2 ^ 40 ∧ o.text.length ≤ 2 ^ 40) :
  CallD Try.prog id_spec_LogSince [vL l, vV v] [] (.tup [(false, [.os (.v 0) 12 0 (sinceR l v).length]), (false, [cI (sinceC l v)])]) [.own 12 ((sinceR l v).map oO)] := by
 refine F_spec_LogSince ?_
 have c1 := s_LogOK l hw
 have c2 := s_VecOK v
 by_cases h1 : LogOk l
 ·by_cases h2 : VecOk v
  ·have hv := h2.1
   have er : sinceR l v = sinceL l v := if_pos ⟨h1, h2⟩
   have ec : sinceC l v = 0 := if_pos ⟨h1, h2⟩
   rw [er, ec]
   try (conv => whnf)
   repeat' (first
    | (refine SeqJ.thru ?_; conv => whnf)
    | (refine br_dec (fun _ => ?_) (fun _ => ?_) <;> first | (exfalso; omega) | contradiction | conv => whnf)
    | (refine br_not ?_; conv => whnf)
    | (refine br_bne (fun _ => ?_) (fun _ => ?_) <;> first | (exfalso; omega) | contradiction | conv => whnf)
    | (refine br_beq (fun _ => ?_) (fun _ => ?_) <;> first | (exfalso; omega) | contradiction | conv => whnf))
   refine Hand.mk [] ?_
   try (conv => whnf)
   refine CallW.d (c1) ?_
   try (conv => whnf)
   try (conv => whnf)
   repeat' (first
    | (refine br_dec (fun _ => ?_) (fun _ => ?_) <;> first | (exfalso; omega) | contradiction | conv => whnf)
    | (refine br_not ?_; conv => whnf)
    | (refine br_bne (fun _ => ?_) (fun _ => ?_) <;> first | (exfalso; omega) | contradiction | conv => whnf)
    | (refine br_beq (fun _ => ?_) (fun _ => ?_) <;> first | (exfalso; omega) | contradiction | conv => whnf))
   refine Hand.mk [] ?_
   try (conv => whnf)
   refine CallW.d (c2) ?_
   try (conv => whnf)
   try (conv => whnf)
   repeat' (first
    | (refine Pick.mk ?_ ?_ ?_; rotate_left; (focus ((simp only [chunks]; rfl))); conv => whnf)
    | (refine br_dec (fun _ => ?_) (fun _ => ?_) <;> first | (exfalso; omega) | contradiction | conv => whnf)
    | (refine br_not ?_; conv => whnf)
    | (refine br_bne (fun _ => ?_) (fun _ => ?_) <;> first | (exfalso; omega) | contradiction | conv => whnf)
    | (refine br_beq (fun _ => ?_) (fun _ => ?_) <;> first | (exfalso; omega) | contradiction | conv => whnf))
   refine LoopE.mk (fun x : Nat × List OpV => mk [(0, vL l), (3, .one (.ptr 4096 0)), (6, .one (.os (.v 16384) 12 0 x.2.length)), (7, vI .i64 x.1)] [(4096, .box [cN v]), (16384, .own 12 (x.2.map oO))]) (fun x => x.1 ≤ l.length ∧ x.2 = sinceL (l.take x.1) v ∧ x.2.length ≤ x.1) (fun x => l.length - x.1) (0, []) ⟨by omega, rfl, by simp⟩ (LeX.of ?_) ?_
   ·try (conv => whnf)
    repeat (refine Need.mk ?_ ?_; (focus (first | omega | (simp; done))); conv => whnf)
    trivial
   ·rintro ⟨i, r⟩ ⟨hi, hr, hrl⟩
    simp only at hi hr hrl ⊢
    have hle := h1.len
    by_cases hlt : i < l.length
    ·have ho := h1.good.all _ (List.getElem_mem hlt)
     obtain ⟨a0, a1⟩ := ho.st.2
     have hg : v.getD l[i].actor.toNat 0 = v[l[i].actor.toNat]'(by omega) := by simp [List.getD, show l[i].actor.toNat < v.length by omega]
     have hfs : sinceL (l.take (i + 1)) v = sinceL (l.take i) v ++ _ := filter_snoc (p := newP v) hlt
     by_cases hp : l[i].seq > v[l[i].actor.toNat]'(by omega)
     ·rw [if_pos (by simp only [newP, hg, decide_eq_true_eq]; omega), ← hr] at hfs
      try (conv => whnf)
      repeat' (first
       | (refine Pick.mk ?_ ?_ ?_; rotate_left; (focus (first | exact List.length_map _ | (refine pick_nat _ _ _ ?_; omega) | (refine pick_int _ _ _ ?_ ?_ <;> omega))); conv => whnf)
       | (refine SeqJ.thru ?_; conv => whnf)
       | (refine br_dec (fun _ => ?_) (fun _ => ?_) <;> first | (exfalso; omega) | contradiction | conv => whnf)
       | (refine br_not ?_; conv => whnf)
       | (refine br_bne (fun _ => ?_) (fun _ => ?_) <;> first | (exfalso; omega) | contradiction | conv => whnf)
       | (refine br_beq (fun _ => ?_) (fun _ => ?_) <;> first | (exfalso; omega) | contradiction | conv => whnf))
      refine Hand.mk [] ?_
      try (conv => whnf)
      refine CallW.d (s_l08CopyOp l[i] (by have := ho.vec.1; omega)) ?_
      try (conv => whnf)
      repeat (first
       | (refine Need.mk ?_ ?_; (focus (first | (simp; done) | (simp; omega) | (first | exact fz_self _ _ (fun _ => rfl) | exact fz_pl rfl | (refine Fz.append ?_ ?_ <;> first | exact fz_self _ _ (fun _ => rfl) | exact fz_pl rfl) | (refine Fz.append (Fz.append ?_ ?_) ?_ <;> first | exact fz_self _ _ (fun _ => rfl) | exact fz_pl rfl)))); conv => whnf)
       | (refine Pick.mk ?_ ?_ ?_; rotate_left; (focus (first | (simp only [List.length_map, List.length_append, List.length_cons, List.length_nil, List.length_replicate, Nat.zero_add]; rfl) | (simp only [chunks]; rfl) | (refine wid ?_ ?_ <;> omega) | (refine SlOf.full ?_; first | (simp; done) | (simp; omega)))); conv => whnf)
       | (refine OwnQ.mk true ?_; conv => whnf))
      refine Pick.mk (i + 1, r ++ [l[i]]) ⟨⟨by simp only; omega, hfs.symm, by simp; omega⟩, by simp only; omega⟩ (LeX.of ?_)
      try (conv => whnf)
      repeat (refine Need.mk ?_ ?_; (focus (first | omega | (simp; done))); conv => whnf)
      refine Need.mk (by simp only [List.map_append]; rfl) ?_
      try (conv => whnf)
      trivial
     ·rw [if_neg (by simp only [newP, hg, decide_eq_true_eq]; omega), List.append_nil, ← hr] at hfs
      try (conv => whnf)
      repeat' (first
       | (refine Pick.mk ?_ ?_ ?_; rotate_left; (focus (first | exact List.length_map _ | (refine wid ?_ ?_ <;> omega) | (refine pick_nat _ _ _ ?_; omega) | (refine pick_int _ _ _ ?_ ?_ <;> omega))); conv => whnf)
       | (refine SeqJ.thru ?_; conv => whnf)
       | (refine br_dec (fun _ => ?_) (fun _ => ?_) <;> first | (exfalso; omega) | contradiction | conv => whnf)
       | (refine br_not ?_; conv => whnf)
       | (refine br_bne (fun _ => ?_) (fun _ => ?_) <;> first | (exfalso; omega) | contradiction | conv => whnf)
       | (refine br_beq (fun _ => ?_) (fun _ => ?_) <;> first | (exfalso; omega) | contradiction | conv => whnf))
      refine Pick.mk (i + 1, r) ⟨⟨by simp only; omega, hfs.symm, by simp only; omega⟩, by simp only; omega⟩ (LeX.of ?_)
      try (conv => whnf)
      repeat (refine Need.mk ?_ ?_; (focus (first | omega | (simp; done))); conv => whnf)
      trivial
    ·have e : r = sinceL l v := by rw [hr, List.take_of_length_le (by omega)]
     try (conv => whnf)
     repeat' (first
      | (refine Pick.mk ?_ ?_ ?_; rotate_left; (focus (exact List.length_map _)); conv => whnf)
      | (refine SeqJ.thru ?_; conv => whnf)
      | (refine br_dec (fun _ => ?_) (fun _ => ?_) <;> first | (exfalso; omega) | contradiction | conv => whnf)
      | (refine br_not ?_; conv => whnf)
      | (refine br_bne (fun _ => ?_) (fun _ => ?_) <;> first | (exfalso; omega) | contradiction | conv => whnf)
      | (refine br_beq (fun _ => ?_) (fun _ => ?_) <;> first | (exfalso; omega) | contradiction | conv => whnf))
     refine Out.mk false [0, 1, 2, 3, 4] [] ?_
     try (conv => whnf)
     repeat (refine Need.mk ?_ ?_; (focus (exact flat_oO _)); conv => whnf)
     rw [e]
     exact ⟨rfl, rfl⟩
  ·have er : sinceR l v = [] := if_neg fun h => h2 h.2
   have ec : sinceC l v = 1 := if_neg fun h => h2 h.2
   rw [er, ec]
   try (conv => whnf)
   repeat' (first
    | (refine SeqJ.thru ?_; conv => whnf)
    | (refine br_dec (fun _ => ?_) (fun _ => ?_) <;> first | (exfalso; omega) | contradiction | conv => whnf)
    | (refine br_not ?_; conv => whnf)
    | (refine br_bne (fun _ => ?_) (fun _ => ?_) <;> first | (exfalso; omega) | contradiction | conv => whnf)
    | (refine br_beq (fun _ => ?_) (fun _ => ?_) <;> first | (exfalso; omega) | contradiction | conv => whnf))
   refine Hand.mk [] ?_
   try (conv => whnf)
   refine CallW.d (c1) ?_
   try (conv => whnf)
   try (conv => whnf)
   repeat' (first
    | (refine br_dec (fun _ => ?_) (fun _ => ?_) <;> first | (exfalso; omega) | contradiction | conv => whnf)
    | (refine br_not ?_; conv => whnf)
    | (refine br_bne (fun _ => ?_) (fun _ => ?_) <;> first | (exfalso; omega) | contradiction | conv => whnf)
    | (refine br_beq (fun _ => ?_) (fun _ => ?_) <;> first | (exfalso; omega) | contradiction | conv => whnf))
   refine Hand.mk [] ?_
   try (conv => whnf)
   refine CallW.d (c2) ?_
   try (conv => whnf)
   try (conv => whnf)
   repeat' (first
    | (refine Pick.mk ?_ ?_ ?_; rotate_left; (focus ((simp only [chunks]; rfl))); conv => whnf)
    | (refine br_dec (fun _ => ?_) (fun _ => ?_) <;> first | (exfalso; omega) | contradiction | conv => whnf)
    | (refine br_not ?_; conv => whnf)
    | (refine br_bne (fun _ => ?_) (fun _ => ?_) <;> first | (exfalso; omega) | contradiction | conv => whnf)
    | (refine br_beq (fun _ => ?_) (fun _ => ?_) <;> first | (exfalso; omega) | contradiction | conv => whnf))
   refine Out.mk false [0, 1, 2, 3, 4] [] ?_
   try (conv => whnf)
   repeat (refine Need.mk ?_ ?_; (focus ((first | exact flat_by _ | exact flat_in _ | exact flat_st _ | exact flat_ts _ | exact flat_bo _ | exact flat_cl rfl))); conv => whnf)
   exact ⟨rfl, rfl⟩
 ·have er : sinceR l v = [] := if_neg fun h => h1 h.1
  have ec : sinceC l v = 1 := if_neg fun h => h1 h.1
  rw [er, ec]
  try (conv => whnf)
  repeat' (first
   | (refine SeqJ.thru ?_; conv => whnf)
   | (refine br_dec (fun _ => ?_) (fun _ => ?_) <;> first | (exfalso; omega) | contradiction | conv => whnf)
   | (refine br_not ?_; conv => whnf)
   | (refine br_bne (fun _ => ?_) (fun _ => ?_) <;> first | (exfalso; omega) | contradiction | conv => whnf)
   | (refine br_beq (fun _ => ?_) (fun _ => ?_) <;> first | (exfalso; omega) | contradiction | conv => whnf))
  refine Hand.mk [] ?_
  try (conv => whnf)
  refine CallW.d (c1) ?_
  try (conv => whnf)
  try (conv => whnf)
  repeat' (first
   | (refine Pick.mk ?_ ?_ ?_; rotate_left; (focus ((simp only [chunks]; rfl))); conv => whnf)
   | (refine br_dec (fun _ => ?_) (fun _ => ?_) <;> first | (exfalso; omega) | contradiction | conv => whnf)
   | (refine br_not ?_; conv => whnf)
   | (refine br_bne (fun _ => ?_) (fun _ => ?_) <;> first | (exfalso; omega) | contradiction | conv => whnf)
   | (refine br_beq (fun _ => ?_) (fun _ => ?_) <;> first | (exfalso; omega) | contradiction | conv => whnf))
  refine Out.mk false [0, 1, 2, 3, 4] [] ?_
  try (conv => whnf)
  repeat (refine Need.mk ?_ ?_; (focus ((first | exact flat_by _ | exact flat_in _ | exact flat_st _ | exact flat_ts _ | exact flat_bo _ | exact flat_cl rfl))); conv => whnf)
  exact ⟨rfl, rfl⟩
theorem i_opCopy (o : OpV) (hl : o.deps.length ≤ 2 ^ 39) : CallD Try.prog id_impl_opCopy [vO o] [] (vOw o) [.own 1 (o.deps.map inD)] := by
 refine F_impl_opCopy ?_
 try (conv => whnf)
 refine Hand.mk [] ?_
 try (conv => whnf)
 refine CallW.d (i_vecCopy o.deps (by omega)) ?_
 try (conv => whnf)
 refine Out.mk false [0, 1, 2, 3, 4] [] ?_
 try (conv => whnf)
 repeat (refine Need.mk ?_ ?_; (focus ((first | exact flat_by _ | exact flat_in _ | exact flat_st _ | exact flat_ts _ | exact flat_bo _ | exact flat_cl rfl))); conv => whnf)
 exact ⟨rfl, rfl⟩
theorem over_pick {α : Type} (f : α → List DV) (m : List α) (n i : Nat) (z : α) (h : m.length = n) (hi : i < n) : ((over m (List.replicate n z) i).map f)[addN 0 (i : Int).toNat]? = some (f z) := by
 rw [addN_eq, List.getElem?_map, show 0 + (i : Int).toNat = i by omega, over_get (by simpa using h) (by simpa using hi), List.getElem_replicate]; rfl
theorem i_vector (l : List OpV) (h : LogOk l) : CallN Try.prog id_impl_book_vector [.one (.ep (.v 0) 120 0 0)] [.own 120 [bookD (bookOf l)]] [] (.agg [.os (.v 1) 1 0 16]) [.own 120 [bookD (bookOf l)], .own 1 ((cnts l).map inD)] := by
 refine F_impl_book_vector ?_
 have wf := bookOf_wf l
 try (conv => whnf)
 repeat (first
  | (refine Need.mk ?_ ?_; (focus (omega)); conv => whnf)
  | (refine Pick.mk ?_ ?_ ?_; rotate_left; (focus (first | (simp only [List.length_map, List.length_append, List.length_cons, List.length_nil, List.length_replicate, Nat.zero_add]; rfl) | exact natlit _)); conv => whnf))
 refine LoopE.mk (fun a : Nat => mk [(0, .one (.ep (.v 0) 120 0 0)), (2, .one (.ptr 4096 0)), (3, .one (.os (.v 8192) 1 0 16)), (6, vI .i64 a)] [(0, .own 120 [bookD (bookOf l)]), (4096, .box [.nil]), (8192, .own 1 ((over (cnts l) (List.replicate 16 0) a).map inD))]) (fun a => a ≤ 16) (fun a => 16 - a) 0 (by omega) (LeX.of ?_) ?_
 ·try (conv => whnf)
  repeat (refine Need.mk ?_ ?_; (focus (first | omega | (simp; done) | rfl)); conv => whnf)
  trivial
 ·intro a ha
  by_cases hlt : a < 16
  ·have e1 := book_of hlt l h.good.all
   have hcn := cnts_get l hlt
   have hle := own_le l a
   have hll := h.len
   try (conv => whnf)
   repeat' (first
    | (refine Need.mk ?_ ?_; (focus (first | omega | (simp only [List.length_map, List.length_append, List.length_cons, List.length_nil, List.length_replicate]; omega))); conv => whnf)
    | (refine Pick.mk ?_ ?_ ?_; rotate_left; (focus (first | (refine over_pick _ _ _ _ _ ?_ ?_ <;> first | (simp; done) | omega) | (with_reducible refine bk_of ?_ ?_ <;> first | assumption | omega) | with_reducible exact set_inN _ _ _ _ | ((show @Eq Nat (_ + Int.toNat _ * _) _); simp only [Int.toNat_natCast, Nat.zero_add, Nat.mul_one]; rfl) | (refine wid ?_ ?_ <;> omega) | ((show @Eq (Option _) _ _); simp only [List.getElem?_cons_zero, List.getElem?_cons_succ]; rfl))); conv => whnf)
    | (refine SeqJ.thru ?_; conv => whnf)
    | (refine br_dec (fun _ => ?_) (fun _ => ?_) <;> first | (exfalso; omega) | contradiction | conv => whnf)
    | (refine br_not ?_; conv => whnf)
    | (refine br_bne (fun _ => ?_) (fun _ => ?_) <;> first | (exfalso; omega) | contradiction | conv => whnf)
    | (refine br_beq (fun _ => ?_) (fun _ => ?_) <;> first | (exfalso; omega) | contradiction | conv => whnf))
   refine Pick.mk (a + 1) (by constructor <;> first | omega | (simp only []; omega)) (LeX.of ?_)
   try (conv => whnf)
   repeat (refine Need.mk ?_ ?_; (focus (first | omega | (simp; done))); conv => whnf)
   refine Need.mk (by rw [e1, ← over_set (m := cnts l) (by simp) (by simpa using hlt), hcn]) ?_
   try (conv => whnf)
   trivial
  ·try (conv => whnf)
   repeat' (first
    | (refine SeqJ.thru ?_; conv => whnf)
    | (refine br_dec (fun _ => ?_) (fun _ => ?_) <;> first | (exfalso; omega) | contradiction | conv => whnf)
    | (refine br_not ?_; conv => whnf)
    | (refine br_bne (fun _ => ?_) (fun _ => ?_) <;> first | (exfalso; omega) | contradiction | conv => whnf)
    | (refine br_beq (fun _ => ?_) (fun _ => ?_) <;> first | (exfalso; omega) | contradiction | conv => whnf))
   refine Out.mk false [0, 1, 2, 3, 4] [] ?_
   try (conv => whnf)
   exact ⟨rfl, by rw [over_end (by simp) (by simp; omega)]⟩
theorem i_LogSince (l : List OpV) (v : List Int) (hw : ∀ o ∈ l, o.key.length ≤ 2 ^ 40 ∧ o.text.length ≤ 2 ^ 40) :
  CallD Try.prog id_impl_LogSince [vL l, vV v] [] (.tup [(false, [.os (.v 0) 12 0 (sinceR l v).length]), (false, [cI (sinceC l v)])]) [.own 12 ((sinceR l v).map oO)] := by
 refine F_impl_LogSince ?_
 have c2 := i_VecOK v
 try (conv => whnf)
 repeat' (first
  | (refine br_dec (fun _ => ?_) (fun _ => ?_) <;> first | (exfalso; omega) | contradiction | conv => whnf)
  | (refine br_not ?_; conv => whnf)
  | (refine br_bne (fun _ => ?_) (fun _ => ?_) <;> first | (exfalso; omega) | contradiction | conv => whnf)
  | (refine br_beq (fun _ => ?_) (fun _ => ?_) <;> first | (exfalso; omega) | contradiction | conv => whnf))
 refine Hand.mk [] ?_
 try (conv => whnf)
 refine CallW.n (i_readBook l hw) ?_
 rintro _ _ (⟨h1, rfl, rfl⟩ | ⟨h1, rfl, rfl⟩)
 ·by_cases h2 : VecOk v
  ·have hv := h2.1
   have er : sinceR l v = sinceL l v := if_pos ⟨h1, h2⟩
   have ec : sinceC l v = 0 := if_pos ⟨h1, h2⟩
   rw [er, ec]
   try (conv => whnf)
   repeat' (first
    | (refine SeqJ.thru ?_; conv => whnf)
    | (refine br_dec (fun _ => ?_) (fun _ => ?_) <;> first | (exfalso; omega) | contradiction | conv => whnf)
    | (refine br_not ?_; conv => whnf)
    | (refine br_bne (fun _ => ?_) (fun _ => ?_) <;> first | (exfalso; omega) | contradiction | conv => whnf)
    | (refine br_beq (fun _ => ?_) (fun _ => ?_) <;> first | (exfalso; omega) | contradiction | conv => whnf))
   refine Hand.mk [] ?_
   try (conv => whnf)
   refine CallW.d (c2) ?_
   try (conv => whnf)
   try (conv => whnf)
   repeat' (first
    | (refine br_dec (fun _ => ?_) (fun _ => ?_) <;> first | (exfalso; omega) | contradiction | conv => whnf)
    | (refine br_not ?_; conv => whnf)
    | (refine br_bne (fun _ => ?_) (fun _ => ?_) <;> first | (exfalso; omega) | contradiction | conv => whnf)
    | (refine br_beq (fun _ => ?_) (fun _ => ?_) <;> first | (exfalso; omega) | contradiction | conv => whnf))
   refine LoopE.mk (fun x : Nat × List OpV => mk [(3, .one (.ptr 4096 0)), (6, .one (.ep (.v 8208) 120 0 0)), (8, .one (.os (.v 53312) 12 0 x.2.length)), (24, vI .i64 x.1)] [(4096, .box [cN v]), (8208, .own 120 [bookD (bookOf l)]), (53312, .own 12 (x.2.map oO))])
    (fun x => x.1 ≤ 16 ∧ x.2 = sinceL (actsL l x.1) v ∧ x.2.length ≤ 1024 * x.1) (fun x => 16 - x.1) (0, []) ⟨by omega, rfl, by simp⟩ (LeX.of ?_) ?_
   ·try (conv => whnf)
    repeat (refine Need.mk ?_ ?_; (focus (first | omega | (simp; done))); conv => whnf)
    trivial
   ·rintro ⟨a, r⟩ ⟨ha, hr, hrl⟩
    simp only at ha hr hrl ⊢
    by_cases hlt : a < 16
    ·have e1 := book_of hlt l h1.good.all
     have hle := own_le l a
     have hll := h1.len
     have wf := bookOf_wf l
     obtain ⟨A, hA⟩ : ∃ A, A = (bookOf l).of.getD a [] := ⟨_, rfl⟩
     have e1 : A = own l a := hA.trans e1
     rw [← e1] at hle
     have hAl : ((bookOf l).of.getD a []).length = A.length := by rw [hA]
     have hmem : ∀ o ∈ A, o ∈ l ∧ o.actor = a := fun o ho => by rw [e1] at ho; have := List.mem_filter.1 ho; exact ⟨this.1, by simpa using this.2⟩
     try (conv => whnf)
     repeat' (first
      | (refine Need.mk ?_ ?_; (focus (omega)); conv => whnf)
      | (refine Pick.mk ?_ ?_ ?_; rotate_left; (focus (first | (with_reducible refine bk_of ?_ ?_ <;> first | assumption | omega) | ((show @Eq Nat (_ + Int.toNat _ * _) _); simp only [Int.toNat_natCast, Nat.zero_add, Nat.mul_one]; rfl) | ((show @Eq (Option _) _ _); simp only [List.getElem?_cons_zero, List.getElem?_cons_succ]; rfl))); conv => whnf)
      | (refine SeqJ.thru ?_; conv => whnf)
      | (refine br_dec (fun _ => ?_) (fun _ => ?_) <;> first | (exfalso; omega) | contradiction | conv => whnf)
      | (refine br_not ?_; conv => whnf)
      | (refine br_bne (fun _ => ?_) (fun _ => ?_) <;> first | (exfalso; omega) | contradiction | conv => whnf)
      | (refine br_beq (fun _ => ?_) (fun _ => ?_) <;> first | (exfalso; omega) | contradiction | conv => whnf))
     refine LoopE.mk (fun x : Nat × List OpV => mk [(3, .one (.ptr 4096 0)), (6, .one (.ep (.v 8208) 120 0 0)), (8, .one (.os (.v 53312) 12 0 x.2.length)), (9, vI .i64 a), (24, vI .i64 a), (32, .one (.os (.h 8208 0 a) 12 0 ((bookOf l).of.getD a []).length)), (33, vI .i64 A.length), (34, vI .i64 x.1)] [(4096, .box [cN v]), (8208, .own 120 [bookD (bookOf l)]), (53312, .own 12 (x.2.map oO))])
      (fun x => x.1 ≤ A.length ∧ x.2 = r ++ sinceL (A.take x.1) v ∧ x.2.length ≤ 1024 * a + x.1) (fun x => A.length - x.1) (0, r) ⟨by omega, by simp [sinceL], by simp only; omega⟩ (LeX.of ?_) ?_
     ·try (conv => whnf)
      repeat (refine Need.mk ?_ ?_; (focus (first | omega | (simp; done))); conv => whnf)
      trivial
     ·rintro ⟨i, r2⟩ ⟨hi, hr2, hr2l⟩
      simp only at hi hr2 hr2l ⊢
      by_cases hil : i < A.length
      ·have ho := h1.good.all A[i] (hmem _ (List.getElem_mem hil)).1
       have hact : A[i].actor = a := (hmem _ (List.getElem_mem hil)).2
       have hg : v.getD A[i].actor.toNat 0 = v[a]'(by omega) := by rw [hact]; simp [List.getD, show a < v.length by omega]
       have hfs : sinceL (A.take (i + 1)) v = sinceL (A.take i) v ++ _ := filter_snoc (p := newP v) hil
       have hgi : ((bookOf l).of.getD a [])[i]'(by rw [← hA]; exact hil) = A[i] := by simp only [hA]
       have hgs : (((bookOf l).of.getD a [])[i]'(by rw [← hA]; exact hil)).seq = A[i].seq := by rw [hgi]
       by_cases hp : A[i].seq > v[a]'(by omega)
       ·rw [if_pos (by simp only [newP, hg, decide_eq_true_eq]; omega)] at hfs
        try (conv => whnf)
        repeat' (first
         | (refine Need.mk ?_ ?_; (focus (omega)); conv => whnf)
         | (refine Pick.mk ?_ ?_ ?_; rotate_left; (focus (first | (with_reducible refine bk_of ?_ ?_ <;> first | assumption | omega) | (with_reducible refine get_mapN _ _ _ ?_; first | omega | (simp; omega)) | (refine pick_nat _ _ _ ?_; omega) | ((show @Eq (Option _) _ _); simp only [List.getElem?_cons_zero, List.getElem?_cons_succ]; rfl))); conv => whnf)
         | (refine SeqJ.thru ?_; conv => whnf)
         | (refine br_dec (fun _ => ?_) (fun _ => ?_) <;> first | (exfalso; omega) | contradiction | conv => whnf)
         | (refine br_not ?_; conv => whnf)
         | (refine br_bne (fun _ => ?_) (fun _ => ?_) <;> first | (exfalso; omega) | contradiction | conv => whnf)
         | (refine br_beq (fun _ => ?_) (fun _ => ?_) <;> first | (exfalso; omega) | contradiction | conv => whnf))
        refine Hand.mk [] ?_
        try (conv => whnf)
        refine CallW.d (i_opCopy (((bookOf l).of.getD a [])[i]'(by omega)) (by rw [hgi]; have := ho.vec.1; omega)) ?_
        try (conv => whnf)
        repeat (first
         | (refine Need.mk ?_ ?_; (focus (first | (simp; done) | (simp; omega) | (first | exact fz_self _ _ (fun _ => rfl) | exact fz_pl rfl | (refine Fz.append ?_ ?_ <;> first | exact fz_self _ _ (fun _ => rfl) | exact fz_pl rfl) | (refine Fz.append (Fz.append ?_ ?_) ?_ <;> first | exact fz_self _ _ (fun _ => rfl) | exact fz_pl rfl)))); conv => whnf)
         | (refine Pick.mk ?_ ?_ ?_; rotate_left; (focus (first | (simp only [List.length_map, List.length_append, List.length_cons, List.length_nil, List.length_replicate, Nat.zero_add]; rfl) | (simp only [chunks]; rfl) | (refine wid ?_ ?_ <;> omega) | (refine SlOf.full ?_; first | (simp; done) | (simp; omega)))); conv => whnf)
         | (refine OwnQ.mk true ?_; conv => whnf))
        refine Pick.mk (i + 1, r2 ++ [A[i]]) ⟨⟨by simp only; omega, by rw [hr2, List.append_assoc, ← hfs], by simp; omega⟩, by simp only; omega⟩ (LeX.of ?_)
        try (conv => whnf)
        repeat (refine Need.mk ?_ ?_; (focus (first | omega | (simp; done) | rfl)); conv => whnf)
        refine Need.mk (by simp only [hgi, List.map_append]; rfl) ?_
        try (conv => whnf)
        trivial
       ·rw [if_neg (by simp only [newP, hg, decide_eq_true_eq]; omega), List.append_nil] at hfs
        try (conv => whnf)
        repeat' (first
         | (refine Need.mk ?_ ?_; (focus (omega)); conv => whnf)
         | (refine Pick.mk ?_ ?_ ?_; rotate_left; (focus (first | (with_reducible refine bk_of ?_ ?_ <;> first | assumption | omega) | (with_reducible refine get_mapN _ _ _ ?_; first | omega | (simp; omega)) | (refine wid ?_ ?_ <;> omega) | (refine pick_nat _ _ _ ?_; omega) | ((show @Eq (Option _) _ _); simp only [List.getElem?_cons_zero, List.getElem?_cons_succ]; rfl))); conv => whnf)
         | (refine SeqJ.thru ?_; conv => whnf)
         | (refine br_dec (fun _ => ?_) (fun _ => ?_) <;> first | (exfalso; omega) | contradiction | conv => whnf)
         | (refine br_not ?_; conv => whnf)
         | (refine br_bne (fun _ => ?_) (fun _ => ?_) <;> first | (exfalso; omega) | contradiction | conv => whnf)
         | (refine br_beq (fun _ => ?_) (fun _ => ?_) <;> first | (exfalso; omega) | contradiction | conv => whnf))
        refine Pick.mk (i + 1, r2) ⟨⟨by simp only; omega, by rw [hr2, hfs], by simp only; omega⟩, by simp only; omega⟩ (LeX.of ?_)
        try (conv => whnf)
        repeat (refine Need.mk ?_ ?_; (focus (first | omega | (simp; done))); conv => whnf)
        trivial
      ·try (conv => whnf)
       repeat' (first
        | (refine Pick.mk ?_ ?_ ?_; rotate_left; (focus ((refine wid ?_ ?_ <;> omega))); conv => whnf)
        | (refine SeqJ.thru ?_; conv => whnf)
        | (refine br_dec (fun _ => ?_) (fun _ => ?_) <;> first | (exfalso; omega) | contradiction | conv => whnf)
        | (refine br_not ?_; conv => whnf)
        | (refine br_bne (fun _ => ?_) (fun _ => ?_) <;> first | (exfalso; omega) | contradiction | conv => whnf)
        | (refine br_beq (fun _ => ?_) (fun _ => ?_) <;> first | (exfalso; omega) | contradiction | conv => whnf))
       refine Pick.mk (a + 1, r2) ⟨⟨by simp only; omega, by rw [hr2, List.take_of_length_le (by omega), actsL_succ, hr, e1]; simp [sinceL], by simp only; omega⟩, by simp only; omega⟩ (LeX.of ?_)
       try (conv => whnf)
       repeat (refine Need.mk ?_ ?_; (focus (first | omega | (simp; done))); conv => whnf)
       trivial
    ·have e : r = sinceL l v := by rw [hr, show a = 16 by omega, h1.acts]
     try (conv => whnf)
     repeat' (first
      | (refine SeqJ.thru ?_; conv => whnf)
      | (refine br_dec (fun _ => ?_) (fun _ => ?_) <;> first | (exfalso; omega) | contradiction | conv => whnf)
      | (refine br_not ?_; conv => whnf)
      | (refine br_bne (fun _ => ?_) (fun _ => ?_) <;> first | (exfalso; omega) | contradiction | conv => whnf)
      | (refine br_beq (fun _ => ?_) (fun _ => ?_) <;> first | (exfalso; omega) | contradiction | conv => whnf))
     refine Out.mk false [0, 1, 2, 3, 4] [] ?_
     try (conv => whnf)
     repeat (refine Need.mk ?_ ?_; (focus (exact flat_oO _)); conv => whnf)
     rw [e]
     exact ⟨rfl, rfl⟩
  ·have er : sinceR l v = [] := if_neg fun h => h2 h.2
   have ec : sinceC l v = 1 := if_neg fun h => h2 h.2
   rw [er, ec]
   try (conv => whnf)
   repeat' (first
    | (refine SeqJ.thru ?_; conv => whnf)
    | (refine br_dec (fun _ => ?_) (fun _ => ?_) <;> first | (exfalso; omega) | contradiction | conv => whnf)
    | (refine br_not ?_; conv => whnf)
    | (refine br_bne (fun _ => ?_) (fun _ => ?_) <;> first | (exfalso; omega) | contradiction | conv => whnf)
    | (refine br_beq (fun _ => ?_) (fun _ => ?_) <;> first | (exfalso; omega) | contradiction | conv => whnf))
   refine Hand.mk [] ?_
   try (conv => whnf)
   refine CallW.d (c2) ?_
   try (conv => whnf)
   try (conv => whnf)
   repeat' (first
    | (refine br_dec (fun _ => ?_) (fun _ => ?_) <;> first | (exfalso; omega) | contradiction | conv => whnf)
    | (refine br_not ?_; conv => whnf)
    | (refine br_bne (fun _ => ?_) (fun _ => ?_) <;> first | (exfalso; omega) | contradiction | conv => whnf)
    | (refine br_beq (fun _ => ?_) (fun _ => ?_) <;> first | (exfalso; omega) | contradiction | conv => whnf))
   refine Out.mk false [0, 1, 2, 3, 4] [(0, 12)] ?_
   try (conv => whnf)
   repeat (refine Need.mk ?_ ?_; (focus ((first | exact flat_by _ | exact flat_in _ | exact flat_st _ | exact flat_ts _ | exact flat_bo _ | exact flat_cl rfl))); conv => whnf)
   exact ⟨rfl, rfl⟩
 ·have er : sinceR l v = [] := if_neg fun h => h1 h.1
  have ec : sinceC l v = 1 := if_neg fun h => h1 h.1
  rw [er, ec]
  try (conv => whnf)
  repeat' (first
   | (refine SeqJ.thru ?_; conv => whnf)
   | (refine br_dec (fun _ => ?_) (fun _ => ?_) <;> first | (exfalso; omega) | contradiction | conv => whnf)
   | (refine br_not ?_; conv => whnf)
   | (refine br_bne (fun _ => ?_) (fun _ => ?_) <;> first | (exfalso; omega) | contradiction | conv => whnf)
   | (refine br_beq (fun _ => ?_) (fun _ => ?_) <;> first | (exfalso; omega) | contradiction | conv => whnf))
  refine Out.mk false [0, 1, 2, 3, 4] [(0, 12)] ?_
  try (conv => whnf)
  repeat (refine Need.mk ?_ ?_; (focus ((first | exact flat_by _ | exact flat_in _ | exact flat_st _ | exact flat_ts _ | exact flat_bo _ | exact flat_cl rfl))); conv => whnf)
  exact ⟨rfl, rfl⟩
end Go.Proofs.Ytpdjehnlejjfmaa.D
/- The law FnSince, as a call that gives back true. -/
namespace Go.Proofs.Ytpdjehnlejjfmaa.D
open Go.RowKit
set_option maxRecDepth 100000
set_option maxHeartbeats 4000000
set_option linter.unusedVariables false
set_option linter.unusedSimpArgs false
noncomputable def vecR (l : List OpV) : List Int := if LogOk l then cnts l else []
noncomputable def vecC (l : List OpV) : Int := if LogOk l then 0 else 1
theorem i_LogVector (l : List OpV) (hw : ∀ o ∈ l, o.key.length ≤ 2 ^ 40 ∧ o.text.length ≤ 2 ^ 40) :
  CallD Try.prog id_impl_LogVector [vL l] [] (.tup [(true, [.os (.v 0) 1 0 (vecR l).length]), (false, [cI (vecC l)])]) [.own 1 ((vecR l).map inD)] := by
 refine F_impl_LogVector ?_
 try (conv => whnf)
 repeat' (first
  | (refine br_dec (fun _ => ?_) (fun _ => ?_) <;> first | (exfalso; omega) | contradiction | conv => whnf)
  | (refine br_not ?_; conv => whnf)
  | (refine br_bne (fun _ => ?_) (fun _ => ?_) <;> first | (exfalso; omega) | contradiction | conv => whnf)
  | (refine br_beq (fun _ => ?_) (fun _ => ?_) <;> first | (exfalso; omega) | contradiction | conv => whnf))
 refine Hand.mk [] ?_
 try (conv => whnf)
 refine CallW.n (i_readBook l hw) ?_
 rintro _ _ (⟨h1, rfl, rfl⟩ | ⟨h1, rfl, rfl⟩)
 ·rw [show vecR l = cnts l from if_pos h1, show vecC l = 0 from if_pos h1]
  try (conv => whnf)
  repeat' (first
   | (refine SeqJ.thru ?_; conv => whnf)
   | (refine br_dec (fun _ => ?_) (fun _ => ?_) <;> first | (exfalso; omega) | contradiction | conv => whnf)
   | (refine br_not ?_; conv => whnf)
   | (refine br_bne (fun _ => ?_) (fun _ => ?_) <;> first | (exfalso; omega) | contradiction | conv => whnf)
   | (refine br_beq (fun _ => ?_) (fun _ => ?_) <;> first | (exfalso; omega) | contradiction | conv => whnf))
  refine Hand.mk [] ?_
  try (conv => whnf)
  refine CallW.k (i_vector l h1) ?_
  try (conv => whnf)
  refine Out.mk false [0, 1, 2, 3, 4] [] ?_
  try (conv => whnf)
  repeat (refine Need.mk ?_ ?_; (focus ((first | exact flat_by _ | exact flat_in _ | exact flat_st _ | exact flat_ts _ | exact flat_bo _ | exact flat_cl rfl))); conv => whnf)
  exact ⟨by simp, rfl⟩
 ·rw [show vecR l = [] from if_neg h1, show vecC l = 1 from if_neg h1]
  try (conv => whnf)
  repeat' (first
   | (refine SeqJ.thru ?_; conv => whnf)
   | (refine br_dec (fun _ => ?_) (fun _ => ?_) <;> first | (exfalso; omega) | contradiction | conv => whnf)
   | (refine br_not ?_; conv => whnf)
   | (refine br_bne (fun _ => ?_) (fun _ => ?_) <;> first | (exfalso; omega) | contradiction | conv => whnf)
   | (refine br_beq (fun _ => ?_) (fun _ => ?_) <;> first | (exfalso; omega) | contradiction | conv => whnf))
  refine Out.mk false [0, 1, 2, 3, 4] [(0, 1)] ?_
  try (conv => whnf)
  repeat (refine Need.mk ?_ ?_; (focus ((first | exact flat_by _ | exact flat_in _ | exact flat_st _ | exact flat_ts _ | exact flat_bo _ | exact flat_cl rfl))); conv => whnf)
  exact ⟨rfl, rfl⟩
theorem l_sameOp (o : OpV) (h : o.deps.length ≤ 2 ^ 39) : CallD Try.prog id_laws_sameOp [vO o, vO o] [] (vB true) [] := by
 refine F_laws_sameOp ?_
 try (conv => whnf)
 repeat' (first
  | (refine br_dec (fun _ => ?_) (fun _ => ?_) <;> first | (exfalso; omega) | contradiction | conv => whnf)
  | (refine br_not ?_; conv => whnf)
  | (refine br_bne (fun _ => ?_) (fun _ => ?_) <;> first | (exfalso; omega) | contradiction | conv => whnf)
  | (refine br_beq (fun _ => ?_) (fun _ => ?_) <;> first | (exfalso; omega) | contradiction | conv => whnf)
  | (refine br_and ?_; conv => whnf))
 refine Hand.mk [] ?_
 try (conv => whnf)
 refine CallW.d (l_sameInts2 o.deps o.deps (by omega) (by omega)) ?_
 try (conv => whnf)
 try (conv => whnf)
 repeat' (first
  | (refine Pick.mk ?_ ?_ ?_; rotate_left; (focus (exact bs_beq _ _)); conv => whnf)
  | (refine br_dec (fun _ => ?_) (fun _ => ?_) <;> first | (exfalso; omega) | contradiction | conv => whnf)
  | (refine br_not ?_; conv => whnf)
  | (refine br_bne (fun _ => ?_) (fun _ => ?_) <;> first | (exfalso; omega) | contradiction | conv => whnf)
  | (refine br_beq (fun _ => ?_) (fun _ => ?_) <;> first | (exfalso; omega) | contradiction | conv => whnf)
  | (refine br_and ?_; conv => whnf))
 refine Out.mk true [] [] ?_
 try (conv => whnf)
 exact ⟨by simp, rfl⟩
theorem l_sameLog (l : List OpV) (hl : l.length ≤ 2 ^ 39) (hd : ∀ o ∈ l, o.deps.length ≤ 2 ^ 39) : CallD Try.prog id_laws_sameLog [vL l, vL l] [] (vB true) [] := by
 refine F_laws_sameLog ?_
 try (conv => whnf)
 repeat' (first
  | (refine Pick.mk ?_ ?_ ?_; rotate_left; (focus (exact List.length_map _)); conv => whnf)
  | (refine SeqJ.thru ?_; conv => whnf)
  | (refine br_dec (fun _ => ?_) (fun _ => ?_) <;> first | (exfalso; omega) | contradiction | conv => whnf)
  | (refine br_not ?_; conv => whnf)
  | (refine br_bne (fun _ => ?_) (fun _ => ?_) <;> first | (exfalso; omega) | contradiction | conv => whnf)
  | (refine br_beq (fun _ => ?_) (fun _ => ?_) <;> first | (exfalso; omega) | contradiction | conv => whnf))
 refine LoopE.mk (fun i : Nat => mk [(0, vL l), (1, vL l), (5, vI .i64 i)] []) (fun i => i ≤ l.length) (fun i => l.length - i) 0 (by omega) (LeX.of ?_) ?_
 ·try (conv => whnf)
  repeat (refine Need.mk ?_ ?_; (focus (first | omega | (simp; done))); conv => whnf)
  trivial
 ·intro i hi
  try (conv => whnf)
  repeat' (first
   | (refine Pick.mk ?_ ?_ ?_; rotate_left; (focus (first | exact List.length_map _ | (refine pick_nat _ _ _ ?_; omega))); conv => whnf)
   | (refine SeqJ.thru ?_; conv => whnf)
   | (refine br_dec (fun _ => ?_) (fun _ => ?_) <;> first | (exfalso; omega) | contradiction | conv => whnf)
   | (refine br_not ?_; conv => whnf)
   | (refine br_bne (fun _ => ?_) (fun _ => ?_) <;> first | (exfalso; omega) | contradiction | conv => whnf)
   | (refine br_beq (fun _ => ?_) (fun _ => ?_) <;> first | (exfalso; omega) | contradiction | conv => whnf))
  ·refine Hand.mk [] ?_
   try (conv => whnf)
   refine CallW.d (l_sameOp (l[i]'(by omega)) (hd _ (List.getElem_mem _))) ?_
   try (conv => whnf)
   repeat (refine Pick.mk ?_ ?_ ?_; rotate_left; (focus ((refine wid ?_ ?_ <;> omega))); conv => whnf)
   try (conv => whnf)
   repeat' (first
    | (refine br_dec (fun _ => ?_) (fun _ => ?_) <;> first | (exfalso; omega) | contradiction | conv => whnf)
    | (refine br_not ?_; conv => whnf)
    | (refine br_bne (fun _ => ?_) (fun _ => ?_) <;> first | (exfalso; omega) | contradiction | conv => whnf)
    | (refine br_beq (fun _ => ?_) (fun _ => ?_) <;> first | (exfalso; omega) | contradiction | conv => whnf))
   refine Pick.mk (i + 1) (by constructor <;> first | omega | (simp only []; omega)) (LeX.of ?_)
   try (conv => whnf)
   repeat (refine Need.mk ?_ ?_; (focus (first | omega | (simp; done))); conv => whnf)
   trivial
  ·refine Out.mk true [] [] ?_
   try (conv => whnf)
   exact ⟨rfl, rfl⟩
theorem since_own {v : List Int} (hv : VecOk v) : ∀ (n : Nat) (A : List OpV) (a : Nat), a < 16 → A.length = n → (∀ o ∈ A, o.actor = a) → (∀ i (h : i < A.length), A[i].seq = i + 1) → ((sinceL A v).length : Int) = if (n : Int) - v.getD a 0 > 0 then (n : Int) - v.getD a 0 else 0 := by
 intro n
 induction n with
 | zero =>
  intro A a ha hn _ _
  have : A = [] := List.eq_nil_of_length_eq_zero hn
  subst this
  have h0 : 0 ≤ v.getD a 0 := by
   simp only [List.getD, List.getElem?_eq_getElem (show a < v.length by rw [hv.1]; exact ha), Option.getD_some]
   exact (hv.2 _ (List.getElem_mem _)).1
  rw [if_neg (by omega)]; simp [sinceL]
 | succ n ih =>
  intro A a ha hn h1 h2
  have hlt : n < A.length := by omega
  have e : A = A.take (n + 1) := (List.take_of_length_le (by omega)).symm
  have ih := ih (A.take n) a ha (by simp; omega) (fun o ho => h1 o (List.mem_of_mem_take ho)) fun i hi => by rw [List.getElem_take]; exact h2 i _
  have hfs : sinceL (A.take (n + 1)) v = sinceL (A.take n) v ++ _ := filter_snoc (p := newP v) hlt
  rw [← e] at hfs
  rw [hfs, List.length_append]
  have hs := h2 n hlt
  have hac := h1 _ (List.getElem_mem hlt)
  have hnp : newP v A[n] = decide ((n : Int) + 1 > v.getD a 0) := by simp only [newP, hs, hac]; rfl
  rw [hnp]
  by_cases hp : (n : Int) + 1 > v.getD a 0
  ·rw [if_pos (by simpa using hp)]
   push_cast
   rw [ih]
   simp only [List.length_singleton]
   split <;> split <;> omega
  ·rw [if_neg (by simpa using hp)]
   push_cast
   rw [ih]
   simp only [List.length_nil]
   split <;> split <;> omega
theorem since_step {l : List OpV} {v : List Int} (h : LogOk l) (hv : VecOk v) {a : Nat} (ha : a < 16) : ((sinceL (actsL l (a + 1)) v).length : Int) = (sinceL (actsL l a) v).length + if ((own l a).length : Int) - v.getD a 0 > 0 then ((own l a).length : Int) - v.getD a 0 else 0 := by
 rw [actsL_succ]
 have e : sinceL (actsL l a ++ own l a) v = sinceL (actsL l a) v ++ sinceL (own l a) v := by simp [sinceL]
 rw [e, List.length_append]
 push_cast
 rw [since_own hv _ (own l a) a ha rfl (fun o ho => by simpa using (List.mem_filter.1 ho).2) fun i hi => (h.good.own_at a i hi).1]
theorem since_all {l : List OpV} (h : LogOk l) : sinceL l (cnts l) = [] := by
 rw [sinceL, List.filter_eq_nil_iff]
 intro o ho
 have ha := (h.good.all o ho).st.2
 have h1 := (h.good.seq_le ho).2
 have hcn := cnts_get l (a := o.actor.toNat) (by omega)
 rw [show ((o.actor.toNat : Nat) : Int) = o.actor by omega] at hcn
 have : (cnts l).getD o.actor.toNat 0 = (own l o.actor).length := by simp only [List.getD, List.getElem?_eq_getElem (show o.actor.toNat < (cnts l).length by simp; omega), Option.getD_some, hcn]
 simp only [newP, this, decide_eq_true_eq]; omega
theorem cnts_ok {l : List OpV} (h : LogOk l) : VecOk (cnts l) := ⟨by simp, fun c hc => by
 obtain ⟨i, hi, rfl⟩ := List.mem_iff_getElem.1 hc
 have hi' : i < 16 := by simpa using hi
 rw [cnts_get l hi']
 have := own_le l i
 have := h.len
 simp only [cntOk]; omega⟩
theorem sinceR_ops {l : List OpV} {v : List Int} (h : LgX l) : (sinceR l v).length ≤ 2 ^ 20 ∧ ∀ o ∈ sinceR l v, o.deps.length ≤ 2 ^ 39 := by
 unfold sinceR
 split
 ·refine ⟨Nat.le_trans (List.length_filter_le _ _) h.len, fun o ho => ?_⟩
  have := (h.ops o (List.mem_filter.1 ho).1).1; omega
 ·simp
theorem law_Since (code : List UInt8) (hc : code.length ≤ 2 ^ 47) : CallD Try.prog id_laws_FnSince [vY code] [] (vB true) [] := by
 refine F_laws_FnSince ?_
 try (conv => whnf)
 repeat' (first
  | (refine Pick.mk ?_ ?_ ?_; rotate_left; (focus (exact List.length_map _)); conv => whnf)
  | (refine SeqJ.thru ?_; conv => whnf)
  | (refine br_dec (fun _ => ?_) (fun _ => ?_) <;> first | (exfalso; omega) | contradiction | conv => whnf)
  | (refine br_not ?_; conv => whnf)
  | (refine br_bne (fun _ => ?_) (fun _ => ?_) <;> first | (exfalso; omega) | contradiction | conv => whnf)
  | (refine br_beq (fun _ => ?_) (fun _ => ?_) <;> first | (exfalso; omega) | contradiction | conv => whnf))
 ·refine Out.mk true [] [] ?_
  try (conv => whnf)
  exact ⟨rfl, rfl⟩
 ·refine Hand.mk [] ?_
  try (conv => whnf)
  refine CallW.n (s_DrawLogSince code (by omega)) ?_
  rintro _ _ ⟨l, v, rfl, rfl, hX, hvl⟩
  have hw : ∀ o ∈ l, o.key.length ≤ 2 ^ 40 ∧ o.text.length ≤ 2 ^ 40 := fun o ho => by have := hX.ops o ho; omega
  try (conv => whnf)
  refine Hand.mk [] ?_
  try (conv => whnf)
  refine CallW.d (i_LogSince l v hw) ?_
  try (conv => whnf)
  refine Hand.mk [] ?_
  try (conv => whnf)
  refine CallW.d (s_LogSince l v hw) ?_
  try (conv => whnf)
  repeat (refine SeqJ.thru ?_; conv => whnf)
  have hq := sinceR_ops (v := v) hX
  have hl3 := l_sameLog (sinceR l v) (by omega) hq.2
  by_cases hok : LogOk l ∧ VecOk v
  ·have hc1 : sinceC l v = 0 := if_pos hok
   have hr1 : sinceR l v = sinceL l v := if_pos hok
   rw [hr1] at hl3 hq
   rw [hc1, hr1]
   have ok2 : LogOk l ∧ VecOk (cnts l) := ⟨hok.1, cnts_ok hok.1⟩
   have c3 := i_LogVector l hw
   rw [show vecR l = cnts l from if_pos hok.1, show vecC l = 0 from if_pos hok.1] at c3
   have c4 := i_LogSince l (cnts l) hw
   rw [show sinceC l (cnts l) = 0 from if_pos ok2, show sinceR l (cnts l) = sinceL l (cnts l) from if_pos ok2, since_all hok.1] at c4
   have hv := hok.2.1
   have hcl := cnts_length l
   have hlen := hok.1.len
   try (conv => whnf)
   repeat' (first
    | (refine br_dec (fun _ => ?_) (fun _ => ?_) <;> first | (exfalso; omega) | contradiction | conv => whnf)
    | (refine br_not ?_; conv => whnf)
    | (refine br_bne (fun _ => ?_) (fun _ => ?_) <;> first | (exfalso; omega) | contradiction | conv => whnf)
    | (refine br_beq (fun _ => ?_) (fun _ => ?_) <;> first | (exfalso; omega) | contradiction | conv => whnf))
   refine Hand.mk [] ?_
   try (conv => whnf)
   repeat (refine Pick.mk ?_ ?_ ?_; rotate_left; (focus (exact sl_ops _ rfl)); conv => whnf)
   refine CallW.d (hl3) ?_
   try (conv => whnf)
   repeat (refine SeqJ.thru ?_; conv => whnf)
   try (conv => whnf)
   repeat' (first
    | (refine br_dec (fun _ => ?_) (fun _ => ?_) <;> first | (exfalso; omega) | contradiction | conv => whnf)
    | (refine br_not ?_; conv => whnf)
    | (refine br_bne (fun _ => ?_) (fun _ => ?_) <;> first | (exfalso; omega) | contradiction | conv => whnf)
    | (refine br_beq (fun _ => ?_) (fun _ => ?_) <;> first | (exfalso; omega) | contradiction | conv => whnf))
   refine Hand.mk [] ?_
   try (conv => whnf)
   refine CallW.d (c3) ?_
   try (conv => whnf)
   refine Hand.mk [] ?_
   try (conv => whnf)
   repeat (refine Pick.mk ?_ ?_ ?_; rotate_left; (focus ((refine SlF.self _ _ ?_ ?_; (first | rfl | omega | (simp; done) | (simp; omega)); (exact fun _ => rfl)))); conv => whnf)
   refine CallW.d (c4) ?_
   try (conv => whnf)
   obtain ⟨r, hr⟩ : ∃ r, r = sinceL l v := ⟨_, rfl⟩
   have hrl : r.length ≤ 2 ^ 20 := hr ▸ hq.1
   simp only [← hr]
   refine LoopE.mk (fun a : Nat => mk [(4, .one (.ptr 16464 0)), (5, .one (.os (.v 20512) 12 0 r.length)), (9, .one (.ptr 45136 0)), (10, vI .i64 0), (11, .one (.os (.v 49184) 12 0 0)), (12, vI .i64 0), (13, vI .i64 (sinceL (actsL l a) v).length), (14, vI .i64 a)]
    [(16464, .box [cN v]), (20512, .own 12 (r.map oO)), (45136, .box [.os (.v 45072) 1 0 (cnts l).length]), (45072, .own 1 ((cnts l).map inD)), (49184, .own 12 [])]) (fun a => a ≤ 16 ∧ (sinceL (actsL l a) v).length ≤ 2000 * a) (fun a => 16 - a) 0 ⟨by omega, by simp [sinceL, actsL]⟩ (LeX.of ?_) ?_
   ·try (conv => whnf)
    repeat (refine Need.mk ?_ ?_; (focus (first | omega | (simp; done) | rfl)); conv => whnf)
    trivial
   ·rintro a ⟨ha, hal⟩
    by_cases hlt : a < 16
    ·have hcn := cnts_get l hlt
     have hst := since_step hok.1 hok.2 hlt
     have hol := own_le l a
     have hg : v.getD a 0 = v[a]'(by omega) := by simp [List.getD, show a < v.length by omega]
     have hv0 := hok.2.2 _ (List.getElem_mem (show a < v.length by omega))
     have hst2 : ((sinceL (actsL l (a + 1)) v).length : Int) = (sinceL (actsL l a) v).length + if ((cnts l)[a]'(by omega)) - (v[a]'(by omega)) > 0 then ((cnts l)[a]'(by omega)) - (v[a]'(by omega)) else 0 := by rw [hst, hcn, hg]
     have hb2 : (sinceL (actsL l (a + 1)) v).length ≤ 2000 * (a + 1) := by
      have : cntOk v[a] := hv0
      simp only [cntOk] at this
      rw [hg] at hst
      split at hst <;> omega
     try (conv => whnf)
     repeat' (first
      | (refine Need.mk ?_ ?_; (focus (omega)); conv => whnf)
      | (refine Pick.mk ?_ ?_ ?_; rotate_left; (focus (first | (with_reducible refine get_mapN _ _ _ ?_; first | omega | (simp; omega)) | (refine wid ?_ ?_ <;> omega) | (refine pick_nat _ _ _ ?_; omega))); conv => whnf)
      | (refine SeqJ.thru ?_; conv => whnf)
      | (refine br_dec (fun _ => ?_) (fun _ => ?_) <;> first | (exfalso; omega) | contradiction | conv => whnf)
      | (refine br_not ?_; conv => whnf)
      | (refine br_bne (fun _ => ?_) (fun _ => ?_) <;> first | (exfalso; omega) | contradiction | conv => whnf)
      | (refine br_beq (fun _ => ?_) (fun _ => ?_) <;> first | (exfalso; omega) | contradiction | conv => whnf))
     refine Pick.mk (a + 1) ⟨⟨by omega, hb2⟩, by omega⟩ (LeX.of ?_)
     try (conv => whnf)
     repeat (refine Need.mk ?_ ?_; (focus (first | omega | (simp; done))); conv => whnf)
     trivial
    ·have e : sinceL (actsL l a) v = r := by rw [show a = 16 by omega, hok.1.acts, hr]
     rw [e]
     try (conv => whnf)
     repeat' (first
      | (refine SeqJ.thru ?_; conv => whnf)
      | (refine br_dec (fun _ => ?_) (fun _ => ?_) <;> first | (exfalso; omega) | contradiction | conv => whnf)
      | (refine br_not ?_; conv => whnf)
      | (refine br_bne (fun _ => ?_) (fun _ => ?_) <;> first | (exfalso; omega) | contradiction | conv => whnf)
      | (refine br_beq (fun _ => ?_) (fun _ => ?_) <;> first | (exfalso; omega) | contradiction | conv => whnf))
     refine Out.mk true [] [] ?_
     try (conv => whnf)
     exact ⟨by simp, rfl⟩
  ·have hc1 : sinceC l v = 1 := if_neg hok
   have hr1 : sinceR l v = [] := if_neg hok
   rw [hr1] at hl3
   rw [hc1, hr1]
   try (conv => whnf)
   repeat' (first
    | (refine br_dec (fun _ => ?_) (fun _ => ?_) <;> first | (exfalso; omega) | contradiction | conv => whnf)
    | (refine br_not ?_; conv => whnf)
    | (refine br_bne (fun _ => ?_) (fun _ => ?_) <;> first | (exfalso; omega) | contradiction | conv => whnf)
    | (refine br_beq (fun _ => ?_) (fun _ => ?_) <;> first | (exfalso; omega) | contradiction | conv => whnf))
   refine Hand.mk [] ?_
   try (conv => whnf)
   repeat (refine Pick.mk ?_ ?_ ?_; rotate_left; (focus (exact sl_ops _ rfl)); conv => whnf)
   refine CallW.d (hl3) ?_
   try (conv => whnf)
   repeat (refine SeqJ.thru ?_; conv => whnf)
   try (conv => whnf)
   repeat' (first
    | (refine br_dec (fun _ => ?_) (fun _ => ?_) <;> first | (exfalso; omega) | contradiction | conv => whnf)
    | (refine br_not ?_; conv => whnf)
    | (refine br_bne (fun _ => ?_) (fun _ => ?_) <;> first | (exfalso; omega) | contradiction | conv => whnf)
    | (refine br_beq (fun _ => ?_) (fun _ => ?_) <;> first | (exfalso; omega) | contradiction | conv => whnf))
   refine Out.mk true [] [] ?_
   try (conv => whnf)
   exact ⟨rfl, rfl⟩
end Go.Proofs.Ytpdjehnlejjfmaa.D
/- From a call's contract to the given row: the arguments as they read. -/
namespace Go.Proofs.Ytpdjehnlejjfmaa.D
open Go.ChangeShapes Go.WideShapes Go.ChangeAt Go.RowKit
open Go.ChangeMaps (open_string)
set_option linter.unusedVariables false
set_option linter.unusedSimpArgs false

def cellsV (w : World) : View := fun x => w.cell? x
theorem satL0 (w : World) : SatL w Rows0.none (cellsV w) (fun _ => none) (Lof []) w :=
 ⟨Keep.refl _ _, fun _ _ h => h, fun x v p b n _ h => by simp at h, fun p q b n n' h => by simp at h, fun p b n h => by simp at h, fun p r h => by simp [Lof] at h, ⟨by simp [Rows0.none], fun q x h => by simp [Rows0.none] at h⟩, fun _ _ => ⟨rfl, fun _ _ => rfl⟩,
  fun p r h => by simp [Lof] at h, fun t => .one (.dead _), rfl, rfl⟩
theorem enter_law {P : Program} {f : FuncId} {args : List SV} {w : World} {vs : List Value} (h : CallD P f args [] (vB true) []) (ha : Args (cellsV w) (fun _ => none) args vs) :
  Calls P f vs.toArray w (fun e w' => e = .returned (.bool true) ∧ Below w.heap.size w w') := by
 refine (h.2 w Rows0.none _ _ vs rfl (satL0 w) ha).mono ?_
 rintro e w' ⟨v, V', bs', res, Lo, rfl, ⟨rfl, rfl⟩, -, -, -, hs, hv, -⟩
 refine ⟨?_, hs.keep.below⟩
 cases hv with
 |one h => cases h with
  | dv h => cases h; rfl
theorem args0 {V : View} {b : Loc} : Args V b [] [] := ⟨rfl, fun i sv v h => by simp at h⟩
theorem argsC {V : View} {b : Loc} {a : SV} {v : Value} {az : List SV} {vs : List Value} (h : VR V b a v) (t : Args V b az vs) : Args V b (a :: az) (v :: vs) :=
 ⟨by simp [t.len], fun i sv u h1 h2 => by
  cases i with
  | zero => simp at h1 h2; subst h1; subst h2; exact h
  | succ i => exact t.get i sv u (by simpa using h1) (by simpa using h2)⟩
section
variable {H : Type} {enc : TypeId × Value → H} {P : Program} {W : World} {base : Nat} {sp : Nat → Bool} {held : Bool}
theorem u8_of {n : Int} (h : (Lit.int .u8 n).wf = true) : ∃ b : UInt8, n = b.toNat := by
 have : 0 ≤ n ∧ n < 256 := by
  simp [Lit.wf, IntKind.min, IntKind.max, IntKind.bits, IntKind.signed] at h
  omega
 exact ⟨u8 n, by rw [u8_val]; omega⟩
theorem list_of {α : Type} (p : α → Int → Prop) : ∀ (zs : List Int), (∀ n ∈ zs, ∃ a, p a n) → ∃ l : List α, l.length = zs.length ∧ ∀ i (h : i < l.length) (h2 : i < zs.length), p l[i] zs[i]
 | [], _ => ⟨[], rfl, fun i h => by simp at h⟩
 |z :: zs, h => by
  obtain ⟨a, ha⟩ := h z (by simp)
  obtain ⟨l, hl, hp⟩ := list_of p zs fun n hn => h n (by simp [hn])
  refine ⟨a :: l, by simp [hl], fun i h h2 => ?_⟩
  cases i with
  | zero => exact ha
  | succ i => exact hp i (by simpa using h) (by simpa using h2)
theorem rd_cells {W : World} {x : Addr} {len cap : Nat} {es : List DV} {g : Nat → Value} (hl : es.length = len) (hc : len ≤ cap) (hg : ∀ i, i < len → W.cell? (x.add i) = some (g i))
  (hr : ∀ i (h : i < es.length), Rd (cellsV W) (g i) es[i]) : Rd (cellsV W) (.slice (some x) len cap) (.sl (es.map fun e => [e])) := by
 by_cases h0 : len = 0
 ·subst h0
  have : es = [] := List.eq_nil_of_length_eq_zero hl
  subst this
  exact .nil _ _
 ·have hx : x = ⟨x.block, x.off, none⟩ := by
   have h1 := hg 0 (by omega)
   have h2 : x.add 0 = x := by simp [Addr.add]
   rw [h2] at h1
   have h3 : x.spot = none := by
    simp only [World.cell?] at h1
    split at h1
    ·split at h1
     ·simp at h1
     ·rename_i h; simpa using h
    ·simp at h1
   cases x; simp_all
  have := Rd.sl (V := cellsV W) x.block x.off 1 cap (es.map fun e => [e]) (fun i _ => g i) (by simp; omega) (by simp) (fun i j hi hj => by
   have h1 := hg i (by simpa [hl] using hi)
   have h2 : x.add i = ⟨x.block, x.off + i * 1 + j, none⟩ := by
    rcases Nat.eq_zero_or_pos i with rfl | hi0
    ·rw [show x.add 0 = x from by simp [Addr.add]]
     simp only [Nat.zero_mul, Nat.add_zero]
     have : j = 0 := by omega
     subst this
     exact hx
    ·unfold Addr.add
     rw [if_neg (by omega)]
     have : j = 0 := by omega
     subst this
     simp
   rw [h2] at h1
   exact h1) (fun i j hi hj => by
   simp at hj
   subst hj
   simpa using hr i (by simpa using hi))
  rw [hx]
  simpa [hl] using this
theorem in_bytes {t e : TypeId} {a : Option Addr} {len cap : Nat} {d : DataW H} {ps : List MemPlace} {ts : List TypeId} {ds : List (DataW H)} {j : Nat} (hsz : (DataW.weightsEach P ts ds).all (· ≤ reachBytes) = true) (h1 : ts[j]? = some t) (h2 : ds[j]? = some d)
  (ht : P.underlying t = some (.slice e)) (he : P.underlying e = some (.int .u8)) (hc : P.cellsOf e = 1) (hb : P.bytesOf e = 1)
  (h : DataW.Trod enc P W base sp held t (.slice a len cap) d ps) : ∃ l : List UInt8, l.length = len ∧ l.length ≤ 2 ^ 47 ∧ Rd (cellsV W) (.slice a len cap) (.sl (l.map byD)) := by
 obtain ⟨fuel, hf⟩ := h
 rcases open_ints ht he hc hf with ⟨hcs, _⟩ | ⟨x, l, c, zs, hcs, _, hl, hm, hz, hx, hcell, hwz⟩
 ·simp [Value.cells] at hcs
  obtain ⟨rfl, rfl, rfl⟩ := hcs
  exact ⟨[], rfl, by simp, .nil _ _⟩
 ·simp [Value.cells] at hcs
  obtain ⟨rfl, rfl, rfl⟩ := hcs
  obtain ⟨hx, _⟩ := Prod.mk.inj hx
  subst hx
  have z := sized_slice hsz h1 h2 ht
  have hr := reachBytes_lt
  rw [hb] at z
  have hll : (lits (H := H) .u8 (zs.take len)).length + (lits (H := H) .u8 (zs.drop len)).length = zs.length := by
   simp [lits]; omega
  have hzl : len ≤ zs.length := by rw [hz]; split <;> omega
  obtain ⟨bsl, hbl, hp⟩ := list_of (fun (b : UInt8) n => n = b.toNat) zs fun n hn => u8_of (hwz n hn)
  refine ⟨bsl.take len, by simp; omega, by simp; omega, ?_⟩
  have := rd_cells (W := W) (x := x) (len := len) (cap := cap) (es := (bsl.take len).map fun b => DV.sc (.int .u8 b.toNat)) (g := fun i => .int .u8 (zs.getD i 0)) (by simp; omega) hl (fun i hi => hcell i (by omega)) (fun i hi => by
   simp only [List.length_map, List.length_take] at hi
   have := hp i (by omega) (by omega)
   simp only [List.getElem_map, List.getElem_take]
   rw [show zs.getD i 0 = zs[i]'(by omega) by simp [List.getD, show i < zs.length by omega], this]
   exact .sc _ rfl)
  rw [List.map_map] at this
  exact this
theorem vrY {l : List UInt8} {v : Value} {b : Loc} (h : Rd (cellsV W) v (.sl (l.map byD))) : VR (cellsV W) b (vY l) v := .one (.dv h)
end
end Go.Proofs.Ytpdjehnlejjfmaa.D
