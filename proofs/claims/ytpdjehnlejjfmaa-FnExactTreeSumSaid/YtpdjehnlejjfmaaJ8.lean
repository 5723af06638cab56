/- The program's book of a log: its cells, an operation put into it. -/
import Derived.WalkKit
import Derived.ProofKit
import Derived.OpenShut
import Derived.ShutString
import Derived.ChangeOld
import Derived.Below
import Derived.SizedLaws
import Derived.ChangeSlices
import Derived.SliceStrings
import Derived.Test.YtpdjehnlejjfmaaJ7
set_option linter.unusedVariables false
set_option linter.unusedSimpArgs false
namespace Go.Proofs.Ytpdjehnlejjfmaa.D
open Go.RowKit
set_option maxRecDepth 100000
set_option maxHeartbeats 4000000
set_option linter.unusedVariables false
set_option linter.unusedSimpArgs false

abbrev dI (n : Int) : DV := .sc (.int .i64 n)
def bookD (b : BookV) : List DV := (b.of.map fun l => DV.ow 12 0 l.length (l.map oD)) ++ ((b.kd.map dI) ++ [dI b.size, dI b.tT, dI b.tA])
structure BookV.Wf (b : BookV) : Prop where
 of : b.of.length = 16
 kd : b.kd.length = 101
theorem bookOf_wf (l : List OpV) : (bookOf l).Wf := ⟨by simp, by rw [book_kd]; simp⟩
theorem BookV.Wf.len {b : BookV} (h : b.Wf) : (bookD b).length = 120 := by simp [bookD, h.of, h.kd]
theorem bk_of {b : BookV} (h : b.Wf) {a : Nat} (ha : a < 16) : (bookD b)[a]? = some (.ow 12 0 (b.of.getD a []).length ((b.of.getD a []).map oD)) := by
 have := h.of
 simp only [bookD]
 rw [List.getElem?_append_left (by simp; omega), List.getElem?_map, List.getElem?_eq_getElem (by omega)]
 simp [List.getD, show a < b.of.length by omega]
theorem bk_kd {b : BookV} (h : b.Wf) {j : Nat} (hj : j < 101) : (bookD b)[16 + j]? = some (dI (b.kd.getD j 0)) := by
 have h1 := h.of; have h2 := h.kd
 simp only [bookD]
 rw [List.getElem?_append_right (by simp; omega), List.getElem?_append_left (by simp; omega)]
 simp [List.getD, h1, show j < b.kd.length by omega]
theorem bk_tail {b : BookV} (h : b.Wf) (n : Nat) : (bookD b)[117 + n]? = [dI b.size, dI b.tT, dI b.tA][n]? := by
 have h1 := h.of; have h2 := h.kd
 simp only [bookD]
 rw [List.getElem?_append_right (by simp; omega), List.getElem?_append_right (by simp; omega)]
 congr 1; simp [h1, h2]; omega
theorem bk_size {b : BookV} (h : b.Wf) : (bookD b)[117]? = some (dI b.size) := bk_tail h 0
theorem bk_top {b : BookV} (h : b.Wf) : 118 + 2 ≤ (bookD b).length ∧ ((bookD b).drop 118).take 2 = [dI b.tT, dI b.tA] := by
 refine ⟨by rw [h.len]; omega, ?_⟩
 apply List.ext_getElem?
 intro i
 rw [List.getElem?_take]
 split
 ·rename_i hi
  rw [List.getElem?_drop, show 118 + i = 117 + (1 + i) by omega, bk_tail h]
  match i, hi with
  | 0, _ => rfl
  | 1, _ => rfl
 ·rw [List.getElem?_eq_none]; simp; omega
theorem splice_one {old : List DV} {f : Nat} (d : DV) (h : f < old.length) : splice old f [d] = old.set f d := by
 unfold splice
 rw [List.set_eq_take_append_cons_drop, if_pos h]
 simp
theorem splice_two {old : List DV} {f : Nat} (d e : DV) (h : f + 1 < old.length) : splice old f [d, e] = (old.set f d).set (f + 1) e := by
 unfold splice
 apply List.ext_getElem?
 intro i
 rw [List.getElem?_set, List.getElem?_set]
 simp only [List.length_set]
 rcases Nat.lt_trichotomy i f with g | g | g
 ·rw [if_neg (by omega), if_neg (by omega), List.append_assoc, List.getElem?_append_left (by simp; omega), List.getElem?_take, if_pos g]
 ·subst g
  rw [if_neg (by omega), if_pos rfl, if_pos (by omega), List.append_assoc, List.getElem?_append_right (by simp; omega)]
  simp [show min i old.length = i by omega]
 ·by_cases g2 : i = f + 1
  ·subst g2
   rw [if_pos rfl, if_pos h, List.append_assoc, List.getElem?_append_right (by simp; omega)]
   simp [show min f old.length = f by omega]
  ·rw [if_neg (by omega), if_neg (by omega), List.getElem?_append_right (by simp; omega), List.getElem?_drop]
   congr 1; simp; omega
theorem bk_setOf {b : BookV} (h : b.Wf) {a : Nat} (ha : a < 16) (l : List OpV) (n : Nat) (hn : n = l.length) : splice ((bookD b).set a .no) a [.ow 12 0 n (l.map oD)] = bookD { b with of := b.of.set a l } := by
 subst hn
 have h1 := h.of
 rw [splice_one _ (by simp [h.len]; omega), List.set_set]
 simp only [bookD]
 rw [List.set_append_left _ _ (by simp; omega), List.map_set]
theorem bk_setKd {b : BookV} (h : b.Wf) {j : Nat} (hj : j < 101) (x : Int) : splice (bookD b) (16 + j) [dI x] = bookD { b with kd := b.kd.set j x } := by
 have h1 := h.of; have h2 := h.kd
 rw [splice_one _ (by simp [h.len]; omega)]
 simp only [bookD]
 rw [List.set_append_right _ _ (by simp; omega), List.set_append_left _ _ (by simp; omega), List.map_set]
 congr 3; simp; omega
theorem bk_setSize {b : BookV} (h : b.Wf) (x : Int) : splice (bookD b) 117 [dI x] = bookD { b with size := x } := by
 have h1 := h.of; have h2 := h.kd
 rw [splice_one _ (by simp [h.len])]
 simp only [bookD]
 rw [List.set_append_right _ _ (by simp; omega), List.set_append_right _ _ (by simp; omega)]
 simp [h1, h2]
theorem bk_setTop {b : BookV} (h : b.Wf) (t a : Int) : splice (bookD b) 118 [dI t, dI a] = bookD { b with tT := t, tA := a } := by
 have h1 := h.of; have h2 := h.kd
 rw [splice_two _ _ (by simp [h.len])]
 simp only [bookD]
 rw [List.set_append_right _ _ (by simp; omega), List.set_append_right _ _ (by simp; omega), List.set_append_right _ _ (by simp; omega), List.set_append_right _ _ (by simp; omega)]
 simp [h1, h2]
theorem bkl_setOf {b : BookV} (h : b.Wf) {a : Nat} (ha : a < 16) (l : List OpV) (n : Nat) (hn : n = l.length) : [(bookD b).set a .no].set 0 (splice ((bookD b).set a .no) a [.ow 12 0 n (l.map oD)]) = [bookD { b with of := b.of.set a l }] := by
 rw [List.set_cons_zero, bk_setOf h ha l n hn]
theorem bkl_setKd {b : BookV} (h : b.Wf) {j : Nat} (hj : j < 101) (x : Int) : [bookD b].set 0 (splice (bookD b) (16 + j) [dI x]) = [bookD { b with kd := b.kd.set j x }] := by
 rw [List.set_cons_zero, bk_setKd h hj x]
theorem bkl_setSize {b : BookV} (h : b.Wf) (x : Int) : [bookD b].set 0 (splice (bookD b) 117 [dI x]) = [bookD { b with size := x }] := by
 rw [List.set_cons_zero, bk_setSize h x]
theorem bkl_setTop {b : BookV} (h : b.Wf) (t a : Int) : [bookD b].set 0 (splice (bookD b) 118 [dI t, dI a]) = [bookD { b with tT := t, tA := a }] := by
 rw [List.set_cons_zero, bk_setTop h t a]
theorem i_thing (o : OpV) : CallD Try.prog id_impl_Op_thing [vO o] [] (vI .i64 (thI o.kind)) [] := by
 refine F_impl_Op_thing ?_
 try (conv => whnf)
 repeat' (first
  | (refine SeqJ.thru ?_; conv => whnf)
  | (refine br_dec (fun _ => ?_) (fun _ => ?_) <;> first | (exfalso; omega) | contradiction | conv => whnf)
  | (refine br_not ?_; conv => whnf)
  | (refine br_bne (fun _ => ?_) (fun _ => ?_) <;> first | (exfalso; omega) | contradiction | conv => whnf)
  | (refine br_beq (fun _ => ?_) (fun _ => ?_) <;> first | (exfalso; omega) | contradiction | conv => whnf))
 all_goals
  refine Out.mk true [] [] ?_
  try (conv => whnf)
 ·exact ⟨by rw [thI, if_pos (by omega)], rfl⟩
 ·exact ⟨by rw [thI, if_neg (by omega)], rfl⟩
theorem BookV.Wf.put {b : BookV} (h : b.Wf) (o : OpV) : (b.put o).Wf := ⟨by simp [BookV.put, h.of], by simp [BookV.put, h.kd]⟩
theorem i_put (b : BookV) (hb : b.Wf) (o : OpV) (ha : actOk o.actor) (ho : 1 ≤ o.obj ∧ o.obj ≤ 100) (hn : (b.of.getD o.actor.toNat []).length ≤ 2 ^ 20) (hs : 0 ≤ b.size ∧ b.size ≤ 2 ^ 40) :
  CallN Try.prog id_impl_book_put [.one (.ep (.v 0) 120 0 0), vO o] [.own 120 [bookD b]] [] (.tup []) [.own 120 [bookD (b.put o)]] := by
 refine F_impl_book_put ?_
 obtain ⟨a0, a1⟩ := ha
 have w1 : ({ b with of := b.of.set o.actor.toNat (b.of.getD o.actor.toNat [] ++ [o]) } : BookV).Wf := ⟨by simp [hb.of], hb.kd⟩
 have w2 : ({ b with of := b.of.set o.actor.toNat (b.of.getD o.actor.toNat [] ++ [o]), kd := b.kd.set o.obj.toNat (thI o.kind) } : BookV).Wf := ⟨by simp [hb.of], by simp [hb.kd]⟩
 have w3 : ({ b with of := b.of.set o.actor.toNat (b.of.getD o.actor.toNat [] ++ [o]), kd := b.kd.set o.obj.toNat (thI o.kind), size := b.size + 1 } : BookV).Wf := ⟨by simp [hb.of], by simp [hb.kd]⟩
 try (conv => whnf)
 repeat (first
  | (refine Need.mk ?_ ?_; (focus (first | omega | (simp only [List.length_map, List.length_append, List.length_cons, List.length_nil, List.length_replicate]; omega) | rfl | (first | exact fz_self _ _ (fun _ => rfl) | exact fz_pl rfl | (refine Fz.append ?_ ?_ <;> first | exact fz_self _ _ (fun _ => rfl) | exact fz_pl rfl) | (refine Fz.append (Fz.append ?_ ?_) ?_ <;> first | exact fz_self _ _ (fun _ => rfl) | exact fz_pl rfl)) | ((conv => whnf); (repeat (first | (refine Need.mk (by first | rfl | omega | (simp; done)) ?_; conv => whnf) | (refine Pick.mk ?_ ?_ ?_; rotate_left; (focus (first | with_reducible exact xor_u8 _ _ | (with_reducible refine xor_i64 ?_ ?_; all_goals omega) | (with_reducible refine xor_u32 ?_ ?_; all_goals omega) | exact map_snoc oD _ _ | (dsimp only; refine wid ?_ ?_ <;> omega) | (refine bkl_setTop ?_ _ _; assumption) | (refine bkl_setSize ?_ _; assumption) | (refine bkl_setKd ?_ ?_ _ <;> first | assumption | omega) | (refine bkl_setOf ?_ ?_ _ _ ?_ <;> first | assumption | omega | (simp; done)) | (refine bk_top ?_; assumption) | (with_reducible refine bk_size ?_; assumption) | (with_reducible refine bk_kd ?_ ?_ <;> first | assumption | omega) | (with_reducible refine bk_of ?_ ?_ <;> first | assumption | omega) | assumption | with_reducible exact set_byN _ _ _ _ | with_reducible exact set_byI _ _ _ _ | with_reducible exact set_inN _ _ _ _ | with_reducible exact set_inI _ _ _ _ | with_reducible exact set_stN _ _ _ _ | with_reducible exact set_tsN _ _ _ _ | with_reducible exact set_tsI _ _ _ _ | with_reducible exact set_boN _ _ _ _ | with_reducible exact set_boI _ _ _ _ | (with_reducible refine get_mapN _ _ _ ?_; first | omega | (simp; omega)) | (with_reducible refine get_mapI _ _ _ ?_ ?_ <;> first | omega | (simp; omega)) | exact bs_beq _ _ | exact bs_less _ _ | exact bs_leq _ _ | with_reducible exact bs_app _ _ | (refine bs_get _ _ ?_; omega) | (refine bs_int _ _ ?_ ?_ <;> omega) | with_reducible exact sl_map0 _ _ _ | with_reducible exact sl_mapN _ _ _ | with_reducible exact sl_map _ _ _ _ | exact bs_extract0 _ _ | exact bs_extractN _ _ | exact bs_extract _ _ _ | (refine bnd_id ?_; omega) | (refine bnd_sub ?_ ?_ <;> omega) | (refine bnd_add ?_; omega) | (refine bnd_subN ?_ ?_ <;> omega) | (refine bnd_int ?_ ?_ <;> omega) | ((show @Eq Nat (_ + Int.toNat _ * _) _); simp only [Int.toNat_natCast, Nat.zero_add, Nat.mul_one]; rfl) | ((show @Eq (List _) (List.set [_] _ _) _); simp only [List.set_cons_zero]; rfl) | exact List.length_map _ | exact size_bs _ | (simp only [List.length_map, List.length_append, List.length_cons, List.length_nil, List.length_replicate, Nat.zero_add]; rfl) | with_reducible exact List.nil_append _ | with_reducible exact map_app _ _ _ | exact map_snoc byD _ _ | exact map_snoc inD _ _ | exact map_snoc stD _ _ | exact map_snoc tsD _ _ | (simp only [chunks]; rfl) | (refine wid ?_ ?_ <;> omega) | exact wby _ | with_reducible exact wby32 _ | with_reducible exact wu32 _ | exact wby64 _ | exact shr8 _ | exact shr16 _ | exact shr24 _ | exact shr32 _ | (refine tmodn ?_; omega) | (refine wdiv ?_ ?_ ?_ <;> omega) | exact wbyte _ | exact natlit _ | exact rep_by _ | exact rep_in _ | exact rep_bo _ | exact rep_st _ | (refine pick_nat _ _ _ ?_; omega) | (refine pick_int _ _ _ ?_ ?_ <;> omega) | (refine SlOf.full ?_; first | (simp; done) | (simp; omega)) | (with_reducible refine SlOf.pre _ _ ?_; first | omega | (simp; omega)) | (refine SlF.self _ _ ?_ ?_; (first | rfl | omega | (simp; done) | (simp; omega)); (exact fun _ => rfl)) | (refine SlF.pre _ _ ?_ ?_; (first | omega | (simp; omega)); (exact fun _ => rfl)) | (refine SlF.same ?_ ?_; (first | rfl | omega | (simp; done) | (simp; omega)); (first | exact fz_self _ _ (fun _ => rfl) | exact fz_pl rfl | (refine Fz.append ?_ ?_ <;> first | exact fz_self _ _ (fun _ => rfl) | exact fz_pl rfl) | (refine Fz.append (Fz.append ?_ ?_) ?_ <;> first | exact fz_self _ _ (fun _ => rfl) | exact fz_pl rfl))) | (simp only [Int.toNat_natCast, Nat.zero_add, Nat.mul_one]; rfl) | ((show @Eq (Option CV) _ _); rfl) | ((fail_if_success (show @Eq (Option _) _ _)); rfl) | ((show @Eq (Option _) _ _); simp only [List.getElem?_cons_zero, List.getElem?_cons_succ]; done) | ((show @Eq (Option _) _ _); simp only [List.getElem?_cons_zero, List.getElem?_cons_succ]; rfl) | with_reducible rfl)); conv => whnf))); exact Done.mk trivial))); conv => whnf)
  | (refine Pick.mk ?_ ?_ ?_; rotate_left; (focus (first | exact map_snoc oD _ _ | (refine bkl_setOf ?_ ?_ _ _ ?_ <;> first | assumption | omega | (simp; done)) | (with_reducible refine bk_of ?_ ?_ <;> first | assumption | omega) | ((show @Eq Nat (_ + Int.toNat _ * _) _); simp only [Int.toNat_natCast, Nat.zero_add, Nat.mul_one]; rfl) | ((show @Eq (List _) (List.set [_] _ _) _); simp only [List.set_cons_zero]; rfl) | (simp only [List.length_map, List.length_append, List.length_cons, List.length_nil, List.length_replicate, Nat.zero_add]; rfl) | (simp only [chunks]; rfl) | (refine SlOf.full ?_; first | (simp; done) | (simp; omega)) | ((show @Eq (Option _) _ _); simp only [List.getElem?_cons_zero, List.getElem?_cons_succ]; rfl))); conv => whnf)
  | (refine OwnQ.mk true ?_; conv => whnf))
 refine Hand.mk [] ?_
 try (conv => whnf)
 refine CallW.d (i_thing o) ?_
 try (conv => whnf)
 repeat (first
  | (refine Need.mk ?_ ?_; (focus (first | omega | (simp only [List.length_map, List.length_append, List.length_cons, List.length_nil, List.length_replicate]; omega) | ((conv => whnf); (repeat (first | (refine Need.mk (by first | rfl | omega | (simp; done)) ?_; conv => whnf) | (refine Pick.mk ?_ ?_ ?_; rotate_left; (focus (first | with_reducible exact xor_u8 _ _ | (with_reducible refine xor_i64 ?_ ?_; all_goals omega) | (with_reducible refine xor_u32 ?_ ?_; all_goals omega) | exact map_snoc oD _ _ | (dsimp only; refine wid ?_ ?_ <;> omega) | (refine bkl_setTop ?_ _ _; assumption) | (refine bkl_setSize ?_ _; assumption) | (refine bkl_setKd ?_ ?_ _ <;> first | assumption | omega) | (refine bkl_setOf ?_ ?_ _ _ ?_ <;> first | assumption | omega | (simp; done)) | (refine bk_top ?_; assumption) | (with_reducible refine bk_size ?_; assumption) | (with_reducible refine bk_kd ?_ ?_ <;> first | assumption | omega) | (with_reducible refine bk_of ?_ ?_ <;> first | assumption | omega) | assumption | with_reducible exact set_byN _ _ _ _ | with_reducible exact set_byI _ _ _ _ | with_reducible exact set_inN _ _ _ _ | with_reducible exact set_inI _ _ _ _ | with_reducible exact set_stN _ _ _ _ | with_reducible exact set_tsN _ _ _ _ | with_reducible exact set_tsI _ _ _ _ | with_reducible exact set_boN _ _ _ _ | with_reducible exact set_boI _ _ _ _ | (with_reducible refine get_mapN _ _ _ ?_; first | omega | (simp; omega)) | (with_reducible refine get_mapI _ _ _ ?_ ?_ <;> first | omega | (simp; omega)) | exact bs_beq _ _ | exact bs_less _ _ | exact bs_leq _ _ | with_reducible exact bs_app _ _ | (refine bs_get _ _ ?_; omega) | (refine bs_int _ _ ?_ ?_ <;> omega) | with_reducible exact sl_map0 _ _ _ | with_reducible exact sl_mapN _ _ _ | with_reducible exact sl_map _ _ _ _ | exact bs_extract0 _ _ | exact bs_extractN _ _ | exact bs_extract _ _ _ | (refine bnd_id ?_; omega) | (refine bnd_sub ?_ ?_ <;> omega) | (refine bnd_add ?_; omega) | (refine bnd_subN ?_ ?_ <;> omega) | (refine bnd_int ?_ ?_ <;> omega) | ((show @Eq Nat (_ + Int.toNat _ * _) _); simp only [Int.toNat_natCast, Nat.zero_add, Nat.mul_one]; rfl) | ((show @Eq (List _) (List.set [_] _ _) _); simp only [List.set_cons_zero]; rfl) | exact List.length_map _ | exact size_bs _ | (simp only [List.length_map, List.length_append, List.length_cons, List.length_nil, List.length_replicate, Nat.zero_add]; rfl) | with_reducible exact List.nil_append _ | with_reducible exact map_app _ _ _ | exact map_snoc byD _ _ | exact map_snoc inD _ _ | exact map_snoc stD _ _ | exact map_snoc tsD _ _ | (simp only [chunks]; rfl) | (refine wid ?_ ?_ <;> omega) | exact wby _ | with_reducible exact wby32 _ | with_reducible exact wu32 _ | exact wby64 _ | exact shr8 _ | exact shr16 _ | exact shr24 _ | exact shr32 _ | (refine tmodn ?_; omega) | (refine wdiv ?_ ?_ ?_ <;> omega) | exact wbyte _ | exact natlit _ | exact rep_by _ | exact rep_in _ | exact rep_bo _ | exact rep_st _ | (refine pick_nat _ _ _ ?_; omega) | (refine pick_int _ _ _ ?_ ?_ <;> omega) | (refine SlOf.full ?_; first | (simp; done) | (simp; omega)) | (with_reducible refine SlOf.pre _ _ ?_; first | omega | (simp; omega)) | (refine SlF.self _ _ ?_ ?_; (first | rfl | omega | (simp; done) | (simp; omega)); (exact fun _ => rfl)) | (refine SlF.pre _ _ ?_ ?_; (first | omega | (simp; omega)); (exact fun _ => rfl)) | (refine SlF.same ?_ ?_; (first | rfl | omega | (simp; done) | (simp; omega)); (first | exact fz_self _ _ (fun _ => rfl) | exact fz_pl rfl | (refine Fz.append ?_ ?_ <;> first | exact fz_self _ _ (fun _ => rfl) | exact fz_pl rfl) | (refine Fz.append (Fz.append ?_ ?_) ?_ <;> first | exact fz_self _ _ (fun _ => rfl) | exact fz_pl rfl))) | (simp only [Int.toNat_natCast, Nat.zero_add, Nat.mul_one]; rfl) | ((show @Eq (Option CV) _ _); rfl) | ((fail_if_success (show @Eq (Option _) _ _)); rfl) | ((show @Eq (Option _) _ _); simp only [List.getElem?_cons_zero, List.getElem?_cons_succ]; done) | ((show @Eq (Option _) _ _); simp only [List.getElem?_cons_zero, List.getElem?_cons_succ]; rfl) | with_reducible rfl)); conv => whnf))); exact Done.mk trivial))); conv => whnf)
  | (refine Pick.mk ?_ ?_ ?_; rotate_left; (focus (first | (dsimp only; refine wid ?_ ?_ <;> omega) | (refine bkl_setSize ?_ _; assumption) | (refine bkl_setKd ?_ ?_ _ <;> first | assumption | omega) | (refine bk_top ?_; assumption) | (with_reducible refine bk_size ?_; assumption) | ((show @Eq Nat (_ + Int.toNat _ * _) _); simp only [Int.toNat_natCast, Nat.zero_add, Nat.mul_one]; rfl) | (simp only [List.length_map, List.length_append, List.length_cons, List.length_nil, List.length_replicate, Nat.zero_add]; rfl) | ((show @Eq (Option _) _ _); simp only [List.getElem?_cons_zero, List.getElem?_cons_succ]; rfl))); conv => whnf))
 refine Hand.mk [] ?_
 try (conv => whnf)
 refine CallW.d (i_stamp o) ?_
 try (conv => whnf)
 repeat (refine Need.mk ?_ ?_; (focus (((conv => whnf); (repeat (first | (refine Need.mk (by first | rfl | omega | (simp; done)) ?_; conv => whnf) | (refine Pick.mk ?_ ?_ ?_; rotate_left; (focus (first | with_reducible exact xor_u8 _ _ | (with_reducible refine xor_i64 ?_ ?_; all_goals omega) | (with_reducible refine xor_u32 ?_ ?_; all_goals omega) | exact map_snoc oD _ _ | (dsimp only; refine wid ?_ ?_ <;> omega) | (refine bkl_setTop ?_ _ _; assumption) | (refine bkl_setSize ?_ _; assumption) | (refine bkl_setKd ?_ ?_ _ <;> first | assumption | omega) | (refine bkl_setOf ?_ ?_ _ _ ?_ <;> first | assumption | omega | (simp; done)) | (refine bk_top ?_; assumption) | (with_reducible refine bk_size ?_; assumption) | (with_reducible refine bk_kd ?_ ?_ <;> first | assumption | omega) | (with_reducible refine bk_of ?_ ?_ <;> first | assumption | omega) | assumption | with_reducible exact set_byN _ _ _ _ | with_reducible exact set_byI _ _ _ _ | with_reducible exact set_inN _ _ _ _ | with_reducible exact set_inI _ _ _ _ | with_reducible exact set_stN _ _ _ _ | with_reducible exact set_tsN _ _ _ _ | with_reducible exact set_tsI _ _ _ _ | with_reducible exact set_boN _ _ _ _ | with_reducible exact set_boI _ _ _ _ | (with_reducible refine get_mapN _ _ _ ?_; first | omega | (simp; omega)) | (with_reducible refine get_mapI _ _ _ ?_ ?_ <;> first | omega | (simp; omega)) | exact bs_beq _ _ | exact bs_less _ _ | exact bs_leq _ _ | with_reducible exact bs_app _ _ | (refine bs_get _ _ ?_; omega) | (refine bs_int _ _ ?_ ?_ <;> omega) | with_reducible exact sl_map0 _ _ _ | with_reducible exact sl_mapN _ _ _ | with_reducible exact sl_map _ _ _ _ | exact bs_extract0 _ _ | exact bs_extractN _ _ | exact bs_extract _ _ _ | (refine bnd_id ?_; omega) | (refine bnd_sub ?_ ?_ <;> omega) | (refine bnd_add ?_; omega) | (refine bnd_subN ?_ ?_ <;> omega) | (refine bnd_int ?_ ?_ <;> omega) | ((show @Eq Nat (_ + Int.toNat _ * _) _); simp only [Int.toNat_natCast, Nat.zero_add, Nat.mul_one]; rfl) | ((show @Eq (List _) (List.set [_] _ _) _); simp only [List.set_cons_zero]; rfl) | exact List.length_map _ | exact size_bs _ | (simp only [List.length_map, List.length_append, List.length_cons, List.length_nil, List.length_replicate, Nat.zero_add]; rfl) | with_reducible exact List.nil_append _ | with_reducible exact map_app _ _ _ | exact map_snoc byD _ _ | exact map_snoc inD _ _ | exact map_snoc stD _ _ | exact map_snoc tsD _ _ | (simp only [chunks]; rfl) | (refine wid ?_ ?_ <;> omega) | exact wby _ | with_reducible exact wby32 _ | with_reducible exact wu32 _ | exact wby64 _ | exact shr8 _ | exact shr16 _ | exact shr24 _ | exact shr32 _ | (refine tmodn ?_; omega) | (refine wdiv ?_ ?_ ?_ <;> omega) | exact wbyte _ | exact natlit _ | exact rep_by _ | exact rep_in _ | exact rep_bo _ | exact rep_st _ | (refine pick_nat _ _ _ ?_; omega) | (refine pick_int _ _ _ ?_ ?_ <;> omega) | (refine SlOf.full ?_; first | (simp; done) | (simp; omega)) | (with_reducible refine SlOf.pre _ _ ?_; first | omega | (simp; omega)) | (refine SlF.self _ _ ?_ ?_; (first | rfl | omega | (simp; done) | (simp; omega)); (exact fun _ => rfl)) | (refine SlF.pre _ _ ?_ ?_; (first | omega | (simp; omega)); (exact fun _ => rfl)) | (refine SlF.same ?_ ?_; (first | rfl | omega | (simp; done) | (simp; omega)); (first | exact fz_self _ _ (fun _ => rfl) | exact fz_pl rfl | (refine Fz.append ?_ ?_ <;> first | exact fz_self _ _ (fun _ => rfl) | exact fz_pl rfl) | (refine Fz.append (Fz.append ?_ ?_) ?_ <;> first | exact fz_self _ _ (fun _ => rfl) | exact fz_pl rfl))) | (simp only [Int.toNat_natCast, Nat.zero_add, Nat.mul_one]; rfl) | ((show @Eq (Option CV) _ _); rfl) | ((fail_if_success (show @Eq (Option _) _ _)); rfl) | ((show @Eq (Option _) _ _); simp only [List.getElem?_cons_zero, List.getElem?_cons_succ]; done) | ((show @Eq (Option _) _ _); simp only [List.getElem?_cons_zero, List.getElem?_cons_succ]; rfl) | with_reducible rfl)); conv => whnf))); exact Done.mk trivial))); conv => whnf)
 refine Hand.mk [] ?_
 try (conv => whnf)
 refine CallW.d (i_StampLess b.tT b.tA o.time o.actor) ?_
 try (conv => whnf)
 try (conv => whnf)
 repeat' (first
  | (refine br_dec (fun _ => ?_) (fun _ => ?_) <;> first | (exfalso; omega) | contradiction | conv => whnf)
  | (refine br_not ?_; conv => whnf)
  | (refine br_bne (fun _ => ?_) (fun _ => ?_) <;> first | (exfalso; omega) | contradiction | conv => whnf)
  | (refine br_beq (fun _ => ?_) (fun _ => ?_) <;> first | (exfalso; omega) | contradiction | conv => whnf))
 ·rename_i hlt
  refine Hand.mk [] ?_
  try (conv => whnf)
  refine CallW.d (i_stamp o) ?_
  try (conv => whnf)
  repeat (first
   | (refine Need.mk ?_ ?_; (focus ((simp only [List.length_map, List.length_append, List.length_cons, List.length_nil, List.length_replicate]; omega))); conv => whnf)
   | (refine Pick.mk ?_ ?_ ?_; rotate_left; (focus (first | (refine bkl_setTop ?_ _ _; assumption) | (simp only [List.length_map, List.length_append, List.length_cons, List.length_nil, List.length_replicate, Nat.zero_add]; rfl))); conv => whnf))
  refine Out.mk false [0, 1, 2, 3, 4] [] ?_
  try (conv => whnf)
  exact ⟨rfl, by simp only [BookV.put, if_pos hlt]⟩
 ·rename_i hlt
  refine Out.mk false [0, 1, 2, 3, 4] [] ?_
  try (conv => whnf)
  exact ⟨rfl, by simp only [BookV.put, if_neg hlt]⟩
end Go.Proofs.Ytpdjehnlejjfmaa.D
/- A log taken apart by the program. -/
namespace Go.Proofs.Ytpdjehnlejjfmaa.D
open Go.RowKit
set_option maxRecDepth 100000
set_option maxHeartbeats 4000000
set_option linter.unusedVariables false
set_option linter.unusedSimpArgs false

abbrev vBook : SV := .tup [(false, [.ep (.v 0) 120 0 0]), (false, [cB true])]
abbrev vNoBook : SV := .tup [(false, [.dv (.sc (.pointer none))]), (false, [cB false])]
def ReadPost (l : List OpV) (res : SV) (Lo : List Row) : Prop := (LogOk l ∧ res = vBook ∧ Lo = [.own 120 [bookD (bookOf l)]]) ∨ (¬ LogOk l ∧ res = vNoBook ∧ Lo = [])
theorem bookOf_own {l : List OpV} (h : ∀ o ∈ l, OpOk o) {a : Int} (ha : actOk a) : (bookOf l).of.getD a.toNat [] = own l a := by
 obtain ⟨a0, a1⟩ := ha
 rw [book_of (by omega) l h, show ((a.toNat : Nat) : Int) = a by omega]
theorem i_readBook (l : List OpV) (hw : ∀ o ∈ l, o.key.length ≤ 2 ^ 40 ∧ o.text.length ≤ 2 ^ 40) : CallM Try.prog id_impl_readBook [vL l] [] [] false (ReadPost l) := by
 refine F_impl_readBook ?_
 try (conv => whnf)
 repeat' (first
  | (refine Pick.mk ?_ ?_ ?_; rotate_left; (focus (exact List.length_map _)); conv => whnf)
  | (refine SeqJ.thru ?_; conv => whnf)
  | (refine br_dec (fun _ => ?_) (fun _ => ?_) <;> first | (exfalso; omega) | contradiction | conv => whnf)
  | (refine br_not ?_; conv => whnf)
  | (refine br_bne (fun _ => ?_) (fun _ => ?_) <;> first | (exfalso; omega) | contradiction | conv => whnf)
  | (refine br_beq (fun _ => ?_) (fun _ => ?_) <;> first | (exfalso; omega) | contradiction | conv => whnf))
 ·rename_i hlen
  refine Out.mk false [0, 1, 2, 3, 4] [] ?_
  try (conv => whnf)
  exact ⟨.inr ⟨fun h => by have := h.len; omega, rfl, rfl⟩⟩
 ·rename_i hlen
  refine LoopE.mk (fun i : Nat => mk [(0, vL l), (16, vL l), (17, vI .i64 l.length), (18, vI .i64 i), (4, .one (.ep (.v 16400) 120 0 0))] [(16400, .own 120 [bookD (bookOf (l.take i))])])
   (fun i => i ≤ l.length ∧ Good1 l i ∧ SameTh thI (l.take i)) (fun i => l.length - i) 0 ⟨by omega, Good1.zero l, fun a ha => by simp at ha⟩ (LeX.of ?_) ?_
  ·try (conv => whnf)
   repeat (refine Need.mk ?_ ?_; (focus (first | omega | (simp; done) | rfl)); conv => whnf)
   trivial
  ·rintro i ⟨hi, hg, hs⟩
   try (conv => whnf)
   repeat' (first
    | (refine Pick.mk ?_ ?_ ?_; rotate_left; (focus (first | exact List.length_map _ | (refine pick_nat _ _ _ ?_; omega))); conv => whnf)
    | (refine SeqJ.thru ?_; conv => whnf)
    | (refine br_dec (fun _ => ?_) (fun _ => ?_) <;> first | (exfalso; omega) | contradiction | conv => whnf)
    | (refine br_not ?_; conv => whnf)
    | (refine br_bne (fun _ => ?_) (fun _ => ?_) <;> first | (exfalso; omega) | contradiction | conv => whnf)
    | (refine br_beq (fun _ => ?_) (fun _ => ?_) <;> first | (exfalso; omega) | contradiction | conv => whnf))
   ·have hlt : i < l.length := by omega
    obtain ⟨hk, ht⟩ := hw _ (List.getElem_mem hlt)
    by_cases hok : OpOk l[i]
    ·obtain ⟨a0, a1⟩ := hok.st.2
     have hob := hok.obj
     have e1 := bookOf_own hg.ok ⟨a0, a1⟩
     have e2 : ((bookOf (l.take i)).of.getD l[i].actor.toNat []).length ≤ 1024 := by
      rw [e1]; exact Nat.le_trans (own_le _ _) (by simp; omega)
     have wf := bookOf_wf (l.take i)
     have ep : ((i : Int) - 1).toNat = i - 1 := by omega
     refine Hand.mk [] ?_
     try (conv => whnf)
     refine CallW.d (i_opOK l[i] hk ht) ?_
     try (conv => whnf)
     try (conv => whnf)
     repeat' (first
      | (refine Need.mk ?_ ?_; (focus (first | omega | ((conv => whnf); (repeat (first | (refine Need.mk (by first | rfl | omega | (simp; done)) ?_; conv => whnf) | (refine Pick.mk ?_ ?_ ?_; rotate_left; (focus (first | with_reducible exact xor_u8 _ _ | (with_reducible refine xor_i64 ?_ ?_; all_goals omega) | (with_reducible refine xor_u32 ?_ ?_; all_goals omega) | (refine bk_top ?_; assumption) | (with_reducible refine bk_size ?_; assumption) | (with_reducible refine bk_kd ?_ ?_ <;> first | assumption | omega) | (with_reducible refine bk_of ?_ ?_ <;> first | assumption | omega) | assumption | with_reducible exact set_byN _ _ _ _ | with_reducible exact set_byI _ _ _ _ | with_reducible exact set_inN _ _ _ _ | with_reducible exact set_inI _ _ _ _ | with_reducible exact set_stN _ _ _ _ | with_reducible exact set_tsN _ _ _ _ | with_reducible exact set_tsI _ _ _ _ | with_reducible exact set_boN _ _ _ _ | with_reducible exact set_boI _ _ _ _ | (with_reducible refine get_mapN _ _ _ ?_; first | omega | (simp; omega)) | (with_reducible refine get_mapI _ _ _ ?_ ?_ <;> first | omega | (simp; omega)) | exact bs_beq _ _ | exact bs_less _ _ | exact bs_leq _ _ | with_reducible exact bs_app _ _ | (refine bs_get _ _ ?_; omega) | (refine bs_int _ _ ?_ ?_ <;> omega) | with_reducible exact sl_map0 _ _ _ | with_reducible exact sl_mapN _ _ _ | with_reducible exact sl_map _ _ _ _ | exact bs_extract0 _ _ | exact bs_extractN _ _ | exact bs_extract _ _ _ | (refine bnd_id ?_; omega) | (refine bnd_sub ?_ ?_ <;> omega) | (refine bnd_add ?_; omega) | (refine bnd_subN ?_ ?_ <;> omega) | (refine bnd_int ?_ ?_ <;> omega) | ((show @Eq Nat (_ + Int.toNat _ * _) _); simp only [Int.toNat_natCast, Nat.zero_add, Nat.mul_one]; rfl) | ((show @Eq (List _) (List.set [_] _ _) _); simp only [List.set_cons_zero]; rfl) | exact List.length_map _ | exact size_bs _ | (simp only [List.length_map, List.length_append, List.length_cons, List.length_nil, List.length_replicate, Nat.zero_add]; rfl) | with_reducible exact List.nil_append _ | with_reducible exact map_app _ _ _ | exact map_snoc byD _ _ | exact map_snoc inD _ _ | exact map_snoc stD _ _ | exact map_snoc tsD _ _ | (simp only [chunks]; rfl) | (refine wid ?_ ?_ <;> omega) | exact wby _ | with_reducible exact wby32 _ | with_reducible exact wu32 _ | exact wby64 _ | exact shr8 _ | exact shr16 _ | exact shr24 _ | exact shr32 _ | (refine tmodn ?_; omega) | (refine wdiv ?_ ?_ ?_ <;> omega) | exact wbyte _ | exact natlit _ | exact rep_by _ | exact rep_in _ | exact rep_bo _ | exact rep_st _ | (refine pick_nat _ _ _ ?_; omega) | (refine pick_int _ _ _ ?_ ?_ <;> omega) | (refine SlOf.full ?_; first | (simp; done) | (simp; omega)) | (with_reducible refine SlOf.pre _ _ ?_; first | omega | (simp; omega)) | (refine SlF.self _ _ ?_ ?_; (first | rfl | omega | (simp; done) | (simp; omega)); (exact fun _ => rfl)) | (refine SlF.pre _ _ ?_ ?_; (first | omega | (simp; omega)); (exact fun _ => rfl)) | (refine SlF.same ?_ ?_; (first | rfl | omega | (simp; done) | (simp; omega)); (first | exact fz_self _ _ (fun _ => rfl) | exact fz_pl rfl | (refine Fz.append ?_ ?_ <;> first | exact fz_self _ _ (fun _ => rfl) | exact fz_pl rfl) | (refine Fz.append (Fz.append ?_ ?_) ?_ <;> first | exact fz_self _ _ (fun _ => rfl) | exact fz_pl rfl))) | (simp only [Int.toNat_natCast, Nat.zero_add, Nat.mul_one]; rfl) | ((show @Eq (Option CV) _ _); rfl) | ((fail_if_success (show @Eq (Option _) _ _)); rfl) | ((show @Eq (Option _) _ _); simp only [List.getElem?_cons_zero, List.getElem?_cons_succ]; done) | ((show @Eq (Option _) _ _); simp only [List.getElem?_cons_zero, List.getElem?_cons_succ]; rfl) | with_reducible rfl)); conv => whnf))); exact Done.mk trivial))); conv => whnf)
      | (refine Pick.mk ?_ ?_ ?_; rotate_left; (focus (first | (with_reducible refine bk_kd ?_ ?_ <;> first | assumption | omega) | (with_reducible refine bk_of ?_ ?_ <;> first | assumption | omega) | ((show @Eq Nat (_ + Int.toNat _ * _) _); simp only [Int.toNat_natCast, Nat.zero_add, Nat.mul_one]; rfl) | (refine wid ?_ ?_ <;> omega) | (refine pick_int _ _ _ ?_ ?_ <;> omega) | ((show @Eq (Option _) _ _); simp only [List.getElem?_cons_zero, List.getElem?_cons_succ]; rfl))); conv => whnf)
      | (refine SeqJ.thru ?_; conv => whnf)
      | (refine br_dec (fun _ => ?_) (fun _ => ?_) <;> first | (exfalso; omega) | contradiction | conv => whnf)
      | (refine br_not ?_; conv => whnf)
      | (refine br_bne (fun _ => ?_) (fun _ => ?_) <;> first | (exfalso; omega) | contradiction | conv => whnf)
      | (refine br_beq (fun _ => ?_) (fun _ => ?_) <;> first | (exfalso; omega) | contradiction | conv => whnf))
     ·refine Out.mk false [0, 1, 2, 3, 4] [] ?_
      try (conv => whnf)
      exact ⟨.inr ⟨fun h => by have := (h.good.at hlt).2.1 (by omega); simp only [ep] at *; omega, rfl, rfl⟩⟩
     ·have hsame : ∀ a ∈ l.take i, a.obj = l[i].obj → thI a.kind = thI l[i].kind := (kd_iff (fun k => thI_ne) hg.ok hs hok).1 (by rw [← book_kd]; first | exact .inl (by assumption) | exact .inr (by omega))
      refine Hand.mk [] ?_
      try (conv => whnf)
      refine CallW.k (i_put (bookOf (l.take i)) wf l[i] ⟨a0, a1⟩ hob (by omega) (by rw [book_size]; simp; omega)) ?_
      try (conv => whnf)
      repeat (refine Pick.mk ?_ ?_ ?_; rotate_left; (focus ((refine wid ?_ ?_ <;> omega))); conv => whnf)
      refine Pick.mk (i + 1) ⟨⟨by omega, Good1.step hlt hg hok (fun _ => by simp only [ep] at *; omega) (by rw [← e1]; omega), by rw [List.take_succ_eq_append_getElem hlt]; exact hs.snoc hsame⟩, by omega⟩ (LeX.of ?_)
      try (conv => whnf)
      repeat (refine Need.mk ?_ ?_; (focus (first | omega | (simp; done) | rfl)); conv => whnf)
      refine Need.mk (by rw [bookOf_take hlt]) ?_
      try (conv => whnf)
      trivial
     ·refine Hand.mk [] ?_
      try (conv => whnf)
      refine CallW.d (i_thing l[i]) ?_
      try (conv => whnf)
      repeat (refine Need.mk ?_ ?_; (focus (((conv => whnf); (repeat (first | (refine Need.mk (by first | rfl | omega | (simp; done)) ?_; conv => whnf) | (refine Pick.mk ?_ ?_ ?_; rotate_left; (focus (first | with_reducible exact xor_u8 _ _ | (with_reducible refine xor_i64 ?_ ?_; all_goals omega) | (with_reducible refine xor_u32 ?_ ?_; all_goals omega) | (refine bk_top ?_; assumption) | (with_reducible refine bk_size ?_; assumption) | (with_reducible refine bk_kd ?_ ?_ <;> first | assumption | omega) | (with_reducible refine bk_of ?_ ?_ <;> first | assumption | omega) | assumption | with_reducible exact set_byN _ _ _ _ | with_reducible exact set_byI _ _ _ _ | with_reducible exact set_inN _ _ _ _ | with_reducible exact set_inI _ _ _ _ | with_reducible exact set_stN _ _ _ _ | with_reducible exact set_tsN _ _ _ _ | with_reducible exact set_tsI _ _ _ _ | with_reducible exact set_boN _ _ _ _ | with_reducible exact set_boI _ _ _ _ | (with_reducible refine get_mapN _ _ _ ?_; first | omega | (simp; omega)) | (with_reducible refine get_mapI _ _ _ ?_ ?_ <;> first | omega | (simp; omega)) | exact bs_beq _ _ | exact bs_less _ _ | exact bs_leq _ _ | with_reducible exact bs_app _ _ | (refine bs_get _ _ ?_; omega) | (refine bs_int _ _ ?_ ?_ <;> omega) | with_reducible exact sl_map0 _ _ _ | with_reducible exact sl_mapN _ _ _ | with_reducible exact sl_map _ _ _ _ | exact bs_extract0 _ _ | exact bs_extractN _ _ | exact bs_extract _ _ _ | (refine bnd_id ?_; omega) | (refine bnd_sub ?_ ?_ <;> omega) | (refine bnd_add ?_; omega) | (refine bnd_subN ?_ ?_ <;> omega) | (refine bnd_int ?_ ?_ <;> omega) | ((show @Eq Nat (_ + Int.toNat _ * _) _); simp only [Int.toNat_natCast, Nat.zero_add, Nat.mul_one]; rfl) | ((show @Eq (List _) (List.set [_] _ _) _); simp only [List.set_cons_zero]; rfl) | exact List.length_map _ | exact size_bs _ | (simp only [List.length_map, List.length_append, List.length_cons, List.length_nil, List.length_replicate, Nat.zero_add]; rfl) | with_reducible exact List.nil_append _ | with_reducible exact map_app _ _ _ | exact map_snoc byD _ _ | exact map_snoc inD _ _ | exact map_snoc stD _ _ | exact map_snoc tsD _ _ | (simp only [chunks]; rfl) | (refine wid ?_ ?_ <;> omega) | exact wby _ | with_reducible exact wby32 _ | with_reducible exact wu32 _ | exact wby64 _ | exact shr8 _ | exact shr16 _ | exact shr24 _ | exact shr32 _ | (refine tmodn ?_; omega) | (refine wdiv ?_ ?_ ?_ <;> omega) | exact wbyte _ | exact natlit _ | exact rep_by _ | exact rep_in _ | exact rep_bo _ | exact rep_st _ | (refine pick_nat _ _ _ ?_; omega) | (refine pick_int _ _ _ ?_ ?_ <;> omega) | (refine SlOf.full ?_; first | (simp; done) | (simp; omega)) | (with_reducible refine SlOf.pre _ _ ?_; first | omega | (simp; omega)) | (refine SlF.self _ _ ?_ ?_; (first | rfl | omega | (simp; done) | (simp; omega)); (exact fun _ => rfl)) | (refine SlF.pre _ _ ?_ ?_; (first | omega | (simp; omega)); (exact fun _ => rfl)) | (refine SlF.same ?_ ?_; (first | rfl | omega | (simp; done) | (simp; omega)); (first | exact fz_self _ _ (fun _ => rfl) | exact fz_pl rfl | (refine Fz.append ?_ ?_ <;> first | exact fz_self _ _ (fun _ => rfl) | exact fz_pl rfl) | (refine Fz.append (Fz.append ?_ ?_) ?_ <;> first | exact fz_self _ _ (fun _ => rfl) | exact fz_pl rfl))) | (simp only [Int.toNat_natCast, Nat.zero_add, Nat.mul_one]; rfl) | ((show @Eq (Option CV) _ _); rfl) | ((fail_if_success (show @Eq (Option _) _ _)); rfl) | ((show @Eq (Option _) _ _); simp only [List.getElem?_cons_zero, List.getElem?_cons_succ]; done) | ((show @Eq (Option _) _ _); simp only [List.getElem?_cons_zero, List.getElem?_cons_succ]; rfl) | with_reducible rfl)); conv => whnf))); exact Done.mk trivial))); conv => whnf)
      try (conv => whnf)
      repeat' (first
       | (refine br_dec (fun _ => ?_) (fun _ => ?_) <;> first | (exfalso; omega) | contradiction | conv => whnf)
       | (refine br_not ?_; conv => whnf)
       | (refine br_bne (fun _ => ?_) (fun _ => ?_) <;> first | (exfalso; omega) | contradiction | conv => whnf)
       | (refine br_beq (fun _ => ?_) (fun _ => ?_) <;> first | (exfalso; omega) | contradiction | conv => whnf))
      rotate_left
      ·refine Out.mk false [0, 1, 2, 3, 4] [] ?_
       try (conv => whnf)
       exact ⟨.inr ⟨fun h => by
        have := (kd_iff (fun k => thI_ne) hg.ok hs hok).2 (SameTh.of_snoc (h.same.sub (m := l.take i ++ [l[i]]) (fun o ho => by rw [← List.take_succ_eq_append_getElem hlt] at ho; exact List.mem_of_mem_take ho)))
        rw [← book_kd] at this; omega, rfl, rfl⟩⟩
      ·have hsame : ∀ a ∈ l.take i, a.obj = l[i].obj → thI a.kind = thI l[i].kind := (kd_iff (fun k => thI_ne) hg.ok hs hok).1 (by rw [← book_kd]; first | exact .inl (by assumption) | exact .inr (by omega))
       refine Hand.mk [] ?_
       try (conv => whnf)
       refine CallW.k (i_put (bookOf (l.take i)) wf l[i] ⟨a0, a1⟩ hob (by omega) (by rw [book_size]; simp; omega)) ?_
       try (conv => whnf)
       repeat (refine Pick.mk ?_ ?_ ?_; rotate_left; (focus ((refine wid ?_ ?_ <;> omega))); conv => whnf)
       refine Pick.mk (i + 1) ⟨⟨by omega, Good1.step hlt hg hok (fun _ => by simp only [ep] at *; omega) (by rw [← e1]; omega), by rw [List.take_succ_eq_append_getElem hlt]; exact hs.snoc hsame⟩, by omega⟩ (LeX.of ?_)
       try (conv => whnf)
       repeat (refine Need.mk ?_ ?_; (focus (first | omega | (simp; done) | rfl)); conv => whnf)
       refine Need.mk (by rw [bookOf_take hlt]) ?_
       try (conv => whnf)
       trivial
     ·refine Out.mk false [0, 1, 2, 3, 4] [] ?_
      try (conv => whnf)
      exact ⟨.inr ⟨fun h => by have := (h.good.at hlt).2.2; rw [← e1] at this; omega, rfl, rfl⟩⟩
     ·have hsame : ∀ a ∈ l.take i, a.obj = l[i].obj → thI a.kind = thI l[i].kind := (kd_iff (fun k => thI_ne) hg.ok hs hok).1 (by rw [← book_kd]; first | exact .inl (by assumption) | exact .inr (by omega))
      refine Hand.mk [] ?_
      try (conv => whnf)
      refine CallW.k (i_put (bookOf (l.take i)) wf l[i] ⟨a0, a1⟩ hob (by omega) (by rw [book_size]; simp; omega)) ?_
      try (conv => whnf)
      repeat (refine Pick.mk ?_ ?_ ?_; rotate_left; (focus ((refine wid ?_ ?_ <;> omega))); conv => whnf)
      refine Pick.mk (i + 1) ⟨⟨by omega, Good1.step hlt hg hok (fun _ => by simp only [ep] at *; omega) (by rw [← e1]; omega), by rw [List.take_succ_eq_append_getElem hlt]; exact hs.snoc hsame⟩, by omega⟩ (LeX.of ?_)
      try (conv => whnf)
      repeat (refine Need.mk ?_ ?_; (focus (first | omega | (simp; done) | rfl)); conv => whnf)
      refine Need.mk (by rw [bookOf_take hlt]) ?_
      try (conv => whnf)
      trivial
     ·refine Hand.mk [] ?_
      try (conv => whnf)
      refine CallW.d (i_thing l[i]) ?_
      try (conv => whnf)
      repeat (refine Need.mk ?_ ?_; (focus (((conv => whnf); (repeat (first | (refine Need.mk (by first | rfl | omega | (simp; done)) ?_; conv => whnf) | (refine Pick.mk ?_ ?_ ?_; rotate_left; (focus (first | with_reducible exact xor_u8 _ _ | (with_reducible refine xor_i64 ?_ ?_; all_goals omega) | (with_reducible refine xor_u32 ?_ ?_; all_goals omega) | (refine bk_top ?_; assumption) | (with_reducible refine bk_size ?_; assumption) | (with_reducible refine bk_kd ?_ ?_ <;> first | assumption | omega) | (with_reducible refine bk_of ?_ ?_ <;> first | assumption | omega) | assumption | with_reducible exact set_byN _ _ _ _ | with_reducible exact set_byI _ _ _ _ | with_reducible exact set_inN _ _ _ _ | with_reducible exact set_inI _ _ _ _ | with_reducible exact set_stN _ _ _ _ | with_reducible exact set_tsN _ _ _ _ | with_reducible exact set_tsI _ _ _ _ | with_reducible exact set_boN _ _ _ _ | with_reducible exact set_boI _ _ _ _ | (with_reducible refine get_mapN _ _ _ ?_; first | omega | (simp; omega)) | (with_reducible refine get_mapI _ _ _ ?_ ?_ <;> first | omega | (simp; omega)) | exact bs_beq _ _ | exact bs_less _ _ | exact bs_leq _ _ | with_reducible exact bs_app _ _ | (refine bs_get _ _ ?_; omega) | (refine bs_int _ _ ?_ ?_ <;> omega) | with_reducible exact sl_map0 _ _ _ | with_reducible exact sl_mapN _ _ _ | with_reducible exact sl_map _ _ _ _ | exact bs_extract0 _ _ | exact bs_extractN _ _ | exact bs_extract _ _ _ | (refine bnd_id ?_; omega) | (refine bnd_sub ?_ ?_ <;> omega) | (refine bnd_add ?_; omega) | (refine bnd_subN ?_ ?_ <;> omega) | (refine bnd_int ?_ ?_ <;> omega) | ((show @Eq Nat (_ + Int.toNat _ * _) _); simp only [Int.toNat_natCast, Nat.zero_add, Nat.mul_one]; rfl) | ((show @Eq (List _) (List.set [_] _ _) _); simp only [List.set_cons_zero]; rfl) | exact List.length_map _ | exact size_bs _ | (simp only [List.length_map, List.length_append, List.length_cons, List.length_nil, List.length_replicate, Nat.zero_add]; rfl) | with_reducible exact List.nil_append _ | with_reducible exact map_app _ _ _ | exact map_snoc byD _ _ | exact map_snoc inD _ _ | exact map_snoc stD _ _ | exact map_snoc tsD _ _ | (simp only [chunks]; rfl) | (refine wid ?_ ?_ <;> omega) | exact wby _ | with_reducible exact wby32 _ | with_reducible exact wu32 _ | exact wby64 _ | exact shr8 _ | exact shr16 _ | exact shr24 _ | exact shr32 _ | (refine tmodn ?_; omega) | (refine wdiv ?_ ?_ ?_ <;> omega) | exact wbyte _ | exact natlit _ | exact rep_by _ | exact rep_in _ | exact rep_bo _ | exact rep_st _ | (refine pick_nat _ _ _ ?_; omega) | (refine pick_int _ _ _ ?_ ?_ <;> omega) | (refine SlOf.full ?_; first | (simp; done) | (simp; omega)) | (with_reducible refine SlOf.pre _ _ ?_; first | omega | (simp; omega)) | (refine SlF.self _ _ ?_ ?_; (first | rfl | omega | (simp; done) | (simp; omega)); (exact fun _ => rfl)) | (refine SlF.pre _ _ ?_ ?_; (first | omega | (simp; omega)); (exact fun _ => rfl)) | (refine SlF.same ?_ ?_; (first | rfl | omega | (simp; done) | (simp; omega)); (first | exact fz_self _ _ (fun _ => rfl) | exact fz_pl rfl | (refine Fz.append ?_ ?_ <;> first | exact fz_self _ _ (fun _ => rfl) | exact fz_pl rfl) | (refine Fz.append (Fz.append ?_ ?_) ?_ <;> first | exact fz_self _ _ (fun _ => rfl) | exact fz_pl rfl))) | (simp only [Int.toNat_natCast, Nat.zero_add, Nat.mul_one]; rfl) | ((show @Eq (Option CV) _ _); rfl) | ((fail_if_success (show @Eq (Option _) _ _)); rfl) | ((show @Eq (Option _) _ _); simp only [List.getElem?_cons_zero, List.getElem?_cons_succ]; done) | ((show @Eq (Option _) _ _); simp only [List.getElem?_cons_zero, List.getElem?_cons_succ]; rfl) | with_reducible rfl)); conv => whnf))); exact Done.mk trivial))); conv => whnf)
      try (conv => whnf)
      repeat' (first
       | (refine br_dec (fun _ => ?_) (fun _ => ?_) <;> first | (exfalso; omega) | contradiction | conv => whnf)
       | (refine br_not ?_; conv => whnf)
       | (refine br_bne (fun _ => ?_) (fun _ => ?_) <;> first | (exfalso; omega) | contradiction | conv => whnf)
       | (refine br_beq (fun _ => ?_) (fun _ => ?_) <;> first | (exfalso; omega) | contradiction | conv => whnf))
      rotate_left
      ·refine Out.mk false [0, 1, 2, 3, 4] [] ?_
       try (conv => whnf)
       exact ⟨.inr ⟨fun h => by
        have := (kd_iff (fun k => thI_ne) hg.ok hs hok).2 (SameTh.of_snoc (h.same.sub (m := l.take i ++ [l[i]]) (fun o ho => by rw [← List.take_succ_eq_append_getElem hlt] at ho; exact List.mem_of_mem_take ho)))
        rw [← book_kd] at this; omega, rfl, rfl⟩⟩
      ·have hsame : ∀ a ∈ l.take i, a.obj = l[i].obj → thI a.kind = thI l[i].kind := (kd_iff (fun k => thI_ne) hg.ok hs hok).1 (by rw [← book_kd]; first | exact .inl (by assumption) | exact .inr (by omega))
       refine Hand.mk [] ?_
       try (conv => whnf)
       refine CallW.k (i_put (bookOf (l.take i)) wf l[i] ⟨a0, a1⟩ hob (by omega) (by rw [book_size]; simp; omega)) ?_
       try (conv => whnf)
       repeat (refine Pick.mk ?_ ?_ ?_; rotate_left; (focus ((refine wid ?_ ?_ <;> omega))); conv => whnf)
       refine Pick.mk (i + 1) ⟨⟨by omega, Good1.step hlt hg hok (fun _ => by simp only [ep] at *; omega) (by rw [← e1]; omega), by rw [List.take_succ_eq_append_getElem hlt]; exact hs.snoc hsame⟩, by omega⟩ (LeX.of ?_)
       try (conv => whnf)
       repeat (refine Need.mk ?_ ?_; (focus (first | omega | (simp; done) | rfl)); conv => whnf)
       refine Need.mk (by rw [bookOf_take hlt]) ?_
       try (conv => whnf)
       trivial
     ·refine Out.mk false [0, 1, 2, 3, 4] [] ?_
      try (conv => whnf)
      exact ⟨.inr ⟨fun h => by have := (h.good.at hlt).2.2; rw [← e1] at this; omega, rfl, rfl⟩⟩
    ·refine Hand.mk [] ?_
     try (conv => whnf)
     refine CallW.d (i_opOK l[i] hk ht) ?_
     try (conv => whnf)
     try (conv => whnf)
     repeat' (first
      | (refine br_dec (fun _ => ?_) (fun _ => ?_) <;> first | (exfalso; omega) | contradiction | conv => whnf)
      | (refine br_not ?_; conv => whnf)
      | (refine br_bne (fun _ => ?_) (fun _ => ?_) <;> first | (exfalso; omega) | contradiction | conv => whnf)
      | (refine br_beq (fun _ => ?_) (fun _ => ?_) <;> first | (exfalso; omega) | contradiction | conv => whnf))
     refine Out.mk false [0, 1, 2, 3, 4] [] ?_
     try (conv => whnf)
     exact ⟨.inr ⟨fun h => hok (h.good.at hlt).1, rfl, rfl⟩⟩
   ·have e : l.take i = l := List.take_of_length_le (by omega)
    have hgl : Good1 l l.length := by
     have e9 : i = l.length := by omega
     rwa [e9] at hg
    have hsl : SameTh thI l := by rwa [e] at hs
    have wf := bookOf_wf l
    refine LoopE.mk (fun i : Nat => mk [(0, vL l), (79, vL l), (80, vI .i64 l.length), (81, vI .i64 i), (4, .one (.ep (.v 16400) 120 0 0))] [(16400, .own 120 [bookD (bookOf l)])])
     (fun i => i ≤ l.length ∧ ∀ o ∈ l.take i, Cause l o) (fun i => l.length - i) 0 ⟨by omega, by simp⟩ (LeX.of ?_) ?_
    ·try (conv => whnf)
     repeat (refine Need.mk ?_ ?_; (focus (first | omega | (simp; done))); conv => whnf)
     refine Need.mk (by rw [e]) ?_
     try (conv => whnf)
     trivial
    ·rintro i ⟨hi, hc⟩
     try (conv => whnf)
     repeat' (first
      | (refine Pick.mk ?_ ?_ ?_; rotate_left; (focus (first | exact List.length_map _ | (refine pick_nat _ _ _ ?_; omega))); conv => whnf)
      | (refine SeqJ.thru ?_; conv => whnf)
      | (refine br_dec (fun _ => ?_) (fun _ => ?_) <;> first | (exfalso; omega) | contradiction | conv => whnf)
      | (refine br_not ?_; conv => whnf)
      | (refine br_bne (fun _ => ?_) (fun _ => ?_) <;> first | (exfalso; omega) | contradiction | conv => whnf)
      | (refine br_beq (fun _ => ?_) (fun _ => ?_) <;> first | (exfalso; omega) | contradiction | conv => whnf))
     ·have hlt : i < l.length := by omega
      have hok := (hgl.at hlt).1
      have hvl := hok.vec.1
      refine LoopE.mk (fun j : Nat => mk [(0, vL l), (87, vN l[i].deps), (88, vI .i64 l[i].deps.length), (89, vI .i64 j), (8, .one (.ptr 65568 0)), (79, vL l), (80, vI .i64 l.length), (81, vI .i64 i), (4, .one (.ep (.v 16400) 120 0 0))] [(16400, .own 120 [bookD (bookOf l)]), (65568, .box (opC l[i]))])
       (fun j => j ≤ l[i].deps.length ∧ ∀ a : Nat, a < j → CauseAt l l[i] a) (fun j => l[i].deps.length - j) 0 ⟨by omega, fun a h => by omega⟩ (LeX.of ?_) ?_
      ·try (conv => whnf)
       repeat (refine Need.mk ?_ ?_; (focus (first | omega | (simp; done))); conv => whnf)
       trivial
      ·rintro j ⟨hj, hca⟩
       by_cases hjl : j < l[i].deps.length
       ·have e1 := book_of (a := j) (by omega) l hgl.all
        have e3 : l[i].deps.getD j 0 = l[i].deps[j] := by simp [List.getD, hjl]
        obtain ⟨c0, c1⟩ := hok.vec.2 _ (List.getElem_mem hjl)
        have step : CauseAt l l[i] j → ∀ a : Nat, a < j + 1 → CauseAt l l[i] a := fun h a ha => by
         rcases Nat.lt_or_ge a j with g | g
         ·exact hca a g
         ·obtain rfl : a = j := by omega
          exact h
        try (conv => whnf)
        repeat' (first
         | (refine Need.mk ?_ ?_; (focus (first | omega | ((conv => whnf); (repeat (first | (refine Need.mk (by first | rfl | omega | (simp; done)) ?_; conv => whnf) | (refine Pick.mk ?_ ?_ ?_; rotate_left; (focus (first | with_reducible exact xor_u8 _ _ | (with_reducible refine xor_i64 ?_ ?_; all_goals omega) | (with_reducible refine xor_u32 ?_ ?_; all_goals omega) | (refine bk_top ?_; assumption) | (with_reducible refine bk_size ?_; assumption) | (with_reducible refine bk_kd ?_ ?_ <;> first | assumption | omega) | (with_reducible refine bk_of ?_ ?_ <;> first | assumption | omega) | assumption | with_reducible exact set_byN _ _ _ _ | with_reducible exact set_byI _ _ _ _ | with_reducible exact set_inN _ _ _ _ | with_reducible exact set_inI _ _ _ _ | with_reducible exact set_stN _ _ _ _ | with_reducible exact set_tsN _ _ _ _ | with_reducible exact set_tsI _ _ _ _ | with_reducible exact set_boN _ _ _ _ | with_reducible exact set_boI _ _ _ _ | (with_reducible refine get_mapN _ _ _ ?_; first | omega | (simp; omega)) | (with_reducible refine get_mapI _ _ _ ?_ ?_ <;> first | omega | (simp; omega)) | exact bs_beq _ _ | exact bs_less _ _ | exact bs_leq _ _ | with_reducible exact bs_app _ _ | (refine bs_get _ _ ?_; omega) | (refine bs_int _ _ ?_ ?_ <;> omega) | with_reducible exact sl_map0 _ _ _ | with_reducible exact sl_mapN _ _ _ | with_reducible exact sl_map _ _ _ _ | exact bs_extract0 _ _ | exact bs_extractN _ _ | exact bs_extract _ _ _ | (refine bnd_id ?_; omega) | (refine bnd_sub ?_ ?_ <;> omega) | (refine bnd_add ?_; omega) | (refine bnd_subN ?_ ?_ <;> omega) | (refine bnd_int ?_ ?_ <;> omega) | ((show @Eq Nat (_ + Int.toNat _ * _) _); simp only [Int.toNat_natCast, Nat.zero_add, Nat.mul_one]; rfl) | ((show @Eq (List _) (List.set [_] _ _) _); simp only [List.set_cons_zero]; rfl) | exact List.length_map _ | exact size_bs _ | (simp only [List.length_map, List.length_append, List.length_cons, List.length_nil, List.length_replicate, Nat.zero_add]; rfl) | with_reducible exact List.nil_append _ | with_reducible exact map_app _ _ _ | exact map_snoc byD _ _ | exact map_snoc inD _ _ | exact map_snoc stD _ _ | exact map_snoc tsD _ _ | (simp only [chunks]; rfl) | (refine wid ?_ ?_ <;> omega) | exact wby _ | with_reducible exact wby32 _ | with_reducible exact wu32 _ | exact wby64 _ | exact shr8 _ | exact shr16 _ | exact shr24 _ | exact shr32 _ | (refine tmodn ?_; omega) | (refine wdiv ?_ ?_ ?_ <;> omega) | exact wbyte _ | exact natlit _ | exact rep_by _ | exact rep_in _ | exact rep_bo _ | exact rep_st _ | (refine pick_nat _ _ _ ?_; omega) | (refine pick_int _ _ _ ?_ ?_ <;> omega) | (refine SlOf.full ?_; first | (simp; done) | (simp; omega)) | (with_reducible refine SlOf.pre _ _ ?_; first | omega | (simp; omega)) | (refine SlF.self _ _ ?_ ?_; (first | rfl | omega | (simp; done) | (simp; omega)); (exact fun _ => rfl)) | (refine SlF.pre _ _ ?_ ?_; (first | omega | (simp; omega)); (exact fun _ => rfl)) | (refine SlF.same ?_ ?_; (first | rfl | omega | (simp; done) | (simp; omega)); (first | exact fz_self _ _ (fun _ => rfl) | exact fz_pl rfl | (refine Fz.append ?_ ?_ <;> first | exact fz_self _ _ (fun _ => rfl) | exact fz_pl rfl) | (refine Fz.append (Fz.append ?_ ?_) ?_ <;> first | exact fz_self _ _ (fun _ => rfl) | exact fz_pl rfl))) | (simp only [Int.toNat_natCast, Nat.zero_add, Nat.mul_one]; rfl) | ((show @Eq (Option CV) _ _); rfl) | ((fail_if_success (show @Eq (Option _) _ _)); rfl) | ((show @Eq (Option _) _ _); simp only [List.getElem?_cons_zero, List.getElem?_cons_succ]; done) | ((show @Eq (Option _) _ _); simp only [List.getElem?_cons_zero, List.getElem?_cons_succ]; rfl) | with_reducible rfl)); conv => whnf))); exact Done.mk trivial))); conv => whnf)
         | (refine Pick.mk ?_ ?_ ?_; rotate_left; (focus (first | (with_reducible refine bk_of ?_ ?_ <;> first | assumption | omega) | (with_reducible refine get_mapI _ _ _ ?_ ?_ <;> first | omega | (simp; omega)) | ((show @Eq Nat (_ + Int.toNat _ * _) _); simp only [Int.toNat_natCast, Nat.zero_add, Nat.mul_one]; rfl) | (refine wid ?_ ?_ <;> omega) | (refine pick_nat _ _ _ ?_; omega) | ((show @Eq (Option _) _ _); simp only [List.getElem?_cons_zero, List.getElem?_cons_succ]; rfl))); conv => whnf)
         | (refine SeqJ.thru ?_; conv => whnf)
         | (refine br_dec (fun _ => ?_) (fun _ => ?_) <;> first | (exfalso; omega) | contradiction | conv => whnf)
         | (refine br_not ?_; conv => whnf)
         | (refine br_bne (fun _ => ?_) (fun _ => ?_) <;> first | (exfalso; omega) | contradiction | conv => whnf)
         | (refine br_beq (fun _ => ?_) (fun _ => ?_) <;> first | (exfalso; omega) | contradiction | conv => whnf))
        ·refine Out.mk false [0, 1, 2, 3, 4] [] ?_
         try (conv => whnf)
         exact ⟨.inr ⟨fun h => by have := (h.cause _ (List.getElem_mem hlt) j (by omega)).1; rw [e3, ← e1] at this; omega, rfl, rfl⟩⟩
        ·have e4 : (own l j)[(l[i].deps.getD j 0 - 1).toNat]? = some (((bookOf l).of.getD j [])[(l[i].deps[j] - 1).toNat]'(by omega)) := by rw [e3, ← e1]; exact List.getElem?_eq_getElem _
         refine Hand.mk [] ?_
         try (conv => whnf)
         refine CallW.d (i_stamp (((bookOf l).of.getD j [])[(l[i].deps[j] - 1).toNat]'(by omega))) ?_
         try (conv => whnf)
         repeat (refine Need.mk ?_ ?_; (focus (((conv => whnf); (repeat (first | (refine Need.mk (by first | rfl | omega | (simp; done)) ?_; conv => whnf) | (refine Pick.mk ?_ ?_ ?_; rotate_left; (focus (first | with_reducible exact xor_u8 _ _ | (with_reducible refine xor_i64 ?_ ?_; all_goals omega) | (with_reducible refine xor_u32 ?_ ?_; all_goals omega) | (refine bk_top ?_; assumption) | (with_reducible refine bk_size ?_; assumption) | (with_reducible refine bk_kd ?_ ?_ <;> first | assumption | omega) | (with_reducible refine bk_of ?_ ?_ <;> first | assumption | omega) | assumption | with_reducible exact set_byN _ _ _ _ | with_reducible exact set_byI _ _ _ _ | with_reducible exact set_inN _ _ _ _ | with_reducible exact set_inI _ _ _ _ | with_reducible exact set_stN _ _ _ _ | with_reducible exact set_tsN _ _ _ _ | with_reducible exact set_tsI _ _ _ _ | with_reducible exact set_boN _ _ _ _ | with_reducible exact set_boI _ _ _ _ | (with_reducible refine get_mapN _ _ _ ?_; first | omega | (simp; omega)) | (with_reducible refine get_mapI _ _ _ ?_ ?_ <;> first | omega | (simp; omega)) | exact bs_beq _ _ | exact bs_less _ _ | exact bs_leq _ _ | with_reducible exact bs_app _ _ | (refine bs_get _ _ ?_; omega) | (refine bs_int _ _ ?_ ?_ <;> omega) | with_reducible exact sl_map0 _ _ _ | with_reducible exact sl_mapN _ _ _ | with_reducible exact sl_map _ _ _ _ | exact bs_extract0 _ _ | exact bs_extractN _ _ | exact bs_extract _ _ _ | (refine bnd_id ?_; omega) | (refine bnd_sub ?_ ?_ <;> omega) | (refine bnd_add ?_; omega) | (refine bnd_subN ?_ ?_ <;> omega) | (refine bnd_int ?_ ?_ <;> omega) | ((show @Eq Nat (_ + Int.toNat _ * _) _); simp only [Int.toNat_natCast, Nat.zero_add, Nat.mul_one]; rfl) | ((show @Eq (List _) (List.set [_] _ _) _); simp only [List.set_cons_zero]; rfl) | exact List.length_map _ | exact size_bs _ | (simp only [List.length_map, List.length_append, List.length_cons, List.length_nil, List.length_replicate, Nat.zero_add]; rfl) | with_reducible exact List.nil_append _ | with_reducible exact map_app _ _ _ | exact map_snoc byD _ _ | exact map_snoc inD _ _ | exact map_snoc stD _ _ | exact map_snoc tsD _ _ | (simp only [chunks]; rfl) | (refine wid ?_ ?_ <;> omega) | exact wby _ | with_reducible exact wby32 _ | with_reducible exact wu32 _ | exact wby64 _ | exact shr8 _ | exact shr16 _ | exact shr24 _ | exact shr32 _ | (refine tmodn ?_; omega) | (refine wdiv ?_ ?_ ?_ <;> omega) | exact wbyte _ | exact natlit _ | exact rep_by _ | exact rep_in _ | exact rep_bo _ | exact rep_st _ | (refine pick_nat _ _ _ ?_; omega) | (refine pick_int _ _ _ ?_ ?_ <;> omega) | (refine SlOf.full ?_; first | (simp; done) | (simp; omega)) | (with_reducible refine SlOf.pre _ _ ?_; first | omega | (simp; omega)) | (refine SlF.self _ _ ?_ ?_; (first | rfl | omega | (simp; done) | (simp; omega)); (exact fun _ => rfl)) | (refine SlF.pre _ _ ?_ ?_; (first | omega | (simp; omega)); (exact fun _ => rfl)) | (refine SlF.same ?_ ?_; (first | rfl | omega | (simp; done) | (simp; omega)); (first | exact fz_self _ _ (fun _ => rfl) | exact fz_pl rfl | (refine Fz.append ?_ ?_ <;> first | exact fz_self _ _ (fun _ => rfl) | exact fz_pl rfl) | (refine Fz.append (Fz.append ?_ ?_) ?_ <;> first | exact fz_self _ _ (fun _ => rfl) | exact fz_pl rfl))) | (simp only [Int.toNat_natCast, Nat.zero_add, Nat.mul_one]; rfl) | ((show @Eq (Option CV) _ _); rfl) | ((fail_if_success (show @Eq (Option _) _ _)); rfl) | ((show @Eq (Option _) _ _); simp only [List.getElem?_cons_zero, List.getElem?_cons_succ]; done) | ((show @Eq (Option _) _ _); simp only [List.getElem?_cons_zero, List.getElem?_cons_succ]; rfl) | with_reducible rfl)); conv => whnf))); exact Done.mk trivial))); conv => whnf)
         refine Hand.mk [] ?_
         try (conv => whnf)
         refine CallW.d (i_stamp l[i]) ?_
         try (conv => whnf)
         refine Hand.mk [] ?_
         try (conv => whnf)
         refine CallW.d (i_StampLess _ _ l[i].time l[i].actor) ?_
         try (conv => whnf)
         try (conv => whnf)
         repeat' (first
          | (refine Pick.mk ?_ ?_ ?_; rotate_left; (focus ((refine wid ?_ ?_ <;> omega))); conv => whnf)
          | (refine br_dec (fun _ => ?_) (fun _ => ?_) <;> first | (exfalso; omega) | contradiction | conv => whnf)
          | (refine br_not ?_; conv => whnf)
          | (refine br_bne (fun _ => ?_) (fun _ => ?_) <;> first | (exfalso; omega) | contradiction | conv => whnf)
          | (refine br_beq (fun _ => ?_) (fun _ => ?_) <;> first | (exfalso; omega) | contradiction | conv => whnf))
         ·rename_i hst
          refine Pick.mk (j + 1) ⟨⟨by omega, step ⟨by rw [e3, ← e1]; omega, fun _ p hp => by rw [e4] at hp; injection hp with hp; subst hp; exact hst⟩⟩, by omega⟩ (LeX.of ?_)
          try (conv => whnf)
          repeat (refine Need.mk ?_ ?_; (focus (first | omega | (simp; done))); conv => whnf)
          trivial
         ·rename_i hst
          refine Out.mk false [0, 1, 2, 3, 4] [] ?_
          try (conv => whnf)
          exact ⟨.inr ⟨fun h => hst ((h.cause _ (List.getElem_mem hlt) j (by omega)).2 (by rw [e3]; omega) _ e4), rfl, rfl⟩⟩
        ·refine Pick.mk (j + 1) ⟨⟨by omega, step ⟨by rw [e3, ← e1]; omega, fun h => by rw [e3] at h; omega⟩⟩, by omega⟩ (LeX.of ?_)
         try (conv => whnf)
         repeat (refine Need.mk ?_ ?_; (focus (first | omega | (simp; done))); conv => whnf)
         trivial
       ·try (conv => whnf)
        repeat' (first
         | (refine Pick.mk ?_ ?_ ?_; rotate_left; (focus ((refine wid ?_ ?_ <;> omega))); conv => whnf)
         | (refine SeqJ.thru ?_; conv => whnf)
         | (refine br_dec (fun _ => ?_) (fun _ => ?_) <;> first | (exfalso; omega) | contradiction | conv => whnf)
         | (refine br_not ?_; conv => whnf)
         | (refine br_bne (fun _ => ?_) (fun _ => ?_) <;> first | (exfalso; omega) | contradiction | conv => whnf)
         | (refine br_beq (fun _ => ?_) (fun _ => ?_) <;> first | (exfalso; omega) | contradiction | conv => whnf))
        refine Pick.mk (i + 1) ⟨⟨by omega, all_next hlt hc fun a ha => hca a (by omega)⟩, by omega⟩ (LeX.of ?_)
        try (conv => whnf)
        repeat (refine Need.mk ?_ ?_; (focus (first | omega | (simp; done))); conv => whnf)
        trivial
     ·refine Out.mk false [0, 1, 2, 3, 4] [] ?_
      try (conv => whnf)
      exact ⟨.inl ⟨⟨by omega, hgl, hsl, by rwa [List.take_of_length_le (by omega)] at hc⟩, rfl, rfl⟩⟩
end Go.Proofs.Ytpdjehnlejjfmaa.D
/- A log's bytes by the program. -/
namespace Go.Proofs.Ytpdjehnlejjfmaa.D
open Go.RowKit
set_option maxRecDepth 100000
set_option maxHeartbeats 4000000
set_option linter.unusedVariables false
set_option linter.unusedSimpArgs false

end Go.Proofs.Ytpdjehnlejjfmaa.D
/- Trees of sums over an actor's operations, by the program. -/
namespace Go.Proofs.Ytpdjehnlejjfmaa.D
open Go.RowKit
set_option maxRecDepth 100000
set_option maxHeartbeats 40000000
set_option linter.unusedVariables false
set_option linter.unusedSimpArgs false

theorem LeX.frz {S' S S1 S2 : St} (h1 : LeX S' S) (h2 : Le S S1) (h3 : LeX S1 S2) : LeX S' S2 := ⟨fun w0 M N V0 a w h => h3.le _ _ _ _ _ _ (h2 _ _ _ _ _ _ (h1.le _ _ _ _ _ _ h))⟩
def lvL (o : List OpV) (k n : Nat) : List Int := (List.range n).map fun p => (nodeN o k p : Int)
@[simp] theorem lvL_length (o : List OpV) (k n : Nat) : (lvL o k n).length = n := by simp [lvL]
theorem lvL_succ (o : List OpV) (k n : Nat) : lvL o k (n + 1) = lvL o k n ++ [(nodeN o k n : Int)] := by simp [lvL, List.range_succ]
theorem lvL_get (o : List OpV) (k n : Nat) {p : Nat} (h : p < n) : (lvL o k n)[p]'(by simpa using h) = nodeN o k p := by simp [lvL]
abbrev frD (o : List OpV) (k : Nat) : DV := .sl ((lvL o k (2 ^ (8 - k))).map inD)
abbrev noD : DV := .ow 1 0 0 []
def rowF (o : List OpV) (k : Nat) : List DV := (List.range k).map (frD o) ++ List.replicate (9 - k) noD
def rowT (o : List OpV) (k n : Nat) : List DV := (List.range k).map (frD o) ++ .ow 1 0 n ((lvL o k n).map inD) :: List.replicate (8 - k) noD
theorem rowF_T (o : List OpV) {k : Nat} (hk : k ≤ 8) : rowF o k = rowT o k 0 := by
 unfold rowF rowT
 rw [show 9 - k = (8 - k) + 1 by omega, List.replicate_succ]
 rfl
theorem rowT_get (o : List OpV) (k n : Nat) : (rowT o k n)[k]? = some (.ow 1 0 n ((lvL o k n).map inD)) := by
 unfold rowT
 rw [List.getElem?_append_right (by simp)]
 simp
theorem rowF_get (o : List OpV) {j k : Nat} (h : j < k) : (rowF o k)[j]? = some (frD o j) := by
 unfold rowF
 rw [List.getElem?_append_left (by simpa using h), List.getElem?_map, List.getElem?_range h]; rfl
theorem rowT_set (o : List OpV) (k n : Nat) (d : DV) : (rowT o k n).set k d = (List.range k).map (frD o) ++ d :: List.replicate (8 - k) noD := by
 unfold rowT
 rw [List.set_append_right _ _ (by simp)]
 simp
theorem rowT_done (o : List OpV) {k : Nat} (hk : k ≤ 8) : (rowT o k (2 ^ (8 - k))).set k (frD o k) = rowF o (k + 1) := by
 rw [rowT_set, rowF, List.range_succ, List.map_append, show 9 - (k + 1) = 8 - k by omega]
 simp
theorem rowT_put (o : List OpV) {k : Nat} (hk : k ≤ 8) (n : Nat) (xs : List (List DV)) (hx : xs = (lvL o k (n + 1)).map inD) : [(rowT o k n).set k .no].set 0 (splice ((rowT o k n).set k .no) k [.ow 1 0 (n + 1) xs]) = [rowT o k (n + 1)] := by
 subst hx
 rw [List.set_cons_zero]
 congr 1
 rw [rowT_set]
 unfold splice rowT
 rw [List.take_left' (by simp), List.drop_append, List.drop_of_length_le (by simp)]
 simp only [List.length_map, List.length_range, List.length_singleton, List.nil_append, List.append_assoc, List.singleton_append]
 rw [show k + 1 - k = 1 by omega]
 simp
theorem le_lv (o : List OpV) {k : Nat} (hk : k ≤ 8) (ts : List (Nat × SV)) : Le (mk ts [(8208, .own 9 [rowT o k (2 ^ (8 - k))])]) (((mk ts [(8208, .own 9 [rowT o k (2 ^ (8 - k))])]).killH 8208).new 8208 (.own 9 [rowF o (k + 1)])) := by
 have h := le_frzH (S := mk ts [(8208, .own 9 [rowT o k (2 ^ (8 - k))])]) (p := 8208) (k := 9) (i := 0) (j := k) (es := [rowT o k (2 ^ (8 - k))]) (e := rowT o k (2 ^ (8 - k))) ⟨by omega, by simp [TKN]⟩ rfl rfl (rowT_get o k _) (by simp) (xs := (lvL o k (2 ^ (8 - k))).map inD) (by
  rw [List.drop_zero, List.take_of_length_le (by simp)]; exact fz_self _ _ (fun _ => rfl))
 rw [List.set_cons_zero, rowT_done o hk] at h
 exact h
theorem i_treeOf (o : List OpV) (hl : o.length ≤ 2 ^ 20) (ho : ∀ x ∈ o, OpOk x) : CallN Try.prog id_impl_treeOf [vL o] [] [] (.one (.ep (.v 0) 9 0 0)) [.own 9 [rowF o 9]] := by
 refine F_impl_treeOf ?_
 try (conv => whnf)
 refine LoopE.mk (fun p : Nat => mk [(0, vL o), (3, .one (.ep (.v 8208) 9 0 0)), (4, vI .i64 p)] [(8208, .own 9 [rowT o 0 p])]) (fun p => p ≤ 256) (fun p => 256 - p) 0 (by omega) (LeX.of ?_) ?_
 ·try (conv => whnf)
  repeat (refine Need.mk ?_ ?_; (focus (first | omega | (simp; done) | rfl)); conv => whnf)
  trivial
 ·intro p hp
  by_cases hp2 : p < 256
  ·try (conv => whnf)
   repeat' (first
    | (refine Pick.mk ?_ ?_ ?_; rotate_left; (focus ((refine wid ?_ ?_ <;> omega))); conv => whnf)
    | (refine SeqJ.thru ?_; conv => whnf)
    | (refine br_dec (fun _ => ?_) (fun _ => ?_) <;> first | (exfalso; omega) | contradiction | conv => whnf)
    | (refine br_not ?_; conv => whnf)
    | (refine br_bne (fun _ => ?_) (fun _ => ?_) <;> first | (exfalso; omega) | contradiction | conv => whnf)
    | (refine br_beq (fun _ => ?_) (fun _ => ?_) <;> first | (exfalso; omega) | contradiction | conv => whnf))
   refine LoopE.mk (fun j : Nat => mk [(0, vL o), (3, .one (.ep (.v 8208) 9 0 0)), (4, vI .i64 p), (5, .one (.os (.v 5000) 1 0 (lfB o (4 * p) j).length)), (6, vI .i64 ((4 * p + j : Nat) : Int))] [(8208, .own 9 [rowT o 0 p]), (5000, .own 1 ((lfB o (4 * p) j).map byD))]) (fun j => j ≤ 4) (fun j => 4 - j) 0 (by omega) (LeX.of ?_) ?_
   ·try (conv => whnf)
    repeat (refine Need.mk ?_ ?_; (focus (first | omega | (simp; done) | rfl)); conv => whnf)
    trivial
   ·intro j hj
    have hbl := lfB_len o (4 * p) j
    by_cases hj4 : j < 4 ∧ 4 * p + j < o.length
    ·have hoj := ho (o[4 * p + j]'hj4.2) (List.getElem_mem _)
     have hob := opB_len hoj
     have hst := lfB_succ (o := o) (f := 4 * p) (j := j) hj4.2
     have hsl := sumH_lt (h := 2166136261) (by omega) (opB (o[4 * p + j]'hj4.2))
     have cb := i_opBytes (o[4 * p + j]'hj4.2) hoj
     obtain ⟨B, hB⟩ : ∃ B, B = opB (o[4 * p + j]'hj4.2) := ⟨_, rfl⟩
     rw [← hB] at cb hob hsl
     try (conv => whnf)
     repeat' (first
      | (refine Pick.mk ?_ ?_ ?_; rotate_left; (focus (first | exact List.length_map _ | (refine wid ?_ ?_ <;> omega) | (refine pick_nat _ _ _ ?_; omega))); conv => whnf)
      | (refine SeqJ.thru ?_; conv => whnf)
      | (refine br_dec (fun _ => ?_) (fun _ => ?_) <;> first | (exfalso; omega) | contradiction | conv => whnf)
      | (refine br_not ?_; conv => whnf)
      | (refine br_bne (fun _ => ?_) (fun _ => ?_) <;> first | (exfalso; omega) | contradiction | conv => whnf)
      | (refine br_beq (fun _ => ?_) (fun _ => ?_) <;> first | (exfalso; omega) | contradiction | conv => whnf))
     refine Hand.mk [] ?_
     try (conv => whnf)
     refine CallW.d (cb) ?_
     try (conv => whnf)
     refine Hand.mk [] ?_
     try (conv => whnf)
     repeat (refine Pick.mk ?_ ?_ ?_; rotate_left; (focus ((refine SlF.self _ _ ?_ ?_; (first | rfl | omega | (simp; done) | (simp; omega)); (exact fun _ => rfl)))); conv => whnf)
     refine CallW.d (i_sum32 B (by omega)) ?_
     try (conv => whnf)
     refine Hand.mk [0] ?_
     try (conv => whnf)
     refine CallW.m (i_append4' (lfB o (4 * p) j) _ (sumH 2166136261 B) rfl (by omega) (by omega) (by omega)) ?_
     try (conv => whnf)
     repeat (refine Pick.mk ?_ ?_ ?_; rotate_left; (focus ((refine wid ?_ ?_ <;> omega))); conv => whnf)
     refine Pick.mk (j + 1) (by constructor <;> first | omega | (simp only []; omega)) (LeX.of ?_)
     try (conv => whnf)
     repeat (refine Need.mk ?_ ?_; (focus (first | omega | (simp; done) | rfl)); conv => whnf)
     refine Need.mk ⟨rfl, by rw [hst, List.length_append, opS, four_length]⟩ ?_
     try (conv => whnf)
     repeat (refine Need.mk ?_ ?_; (focus (first | omega | (simp; done))); conv => whnf)
     refine Need.mk (by rw [hst, opS, hB]) ?_
     try (conv => whnf)
     trivial
    ·have hend : lfB o (4 * p) j = lfB o (4 * p) 4 := by
      by_cases h4 : j = 4
      ·rw [h4]
      ·rcases Nat.lt_or_ge (4 * p + j) o.length with h | h
       ·omega
       ·exact lfB_end (by omega) hj
     have hk8 : 0 ≤ 8 := by omega
     have hg0 : (rowT o 0 p)[Int.toNat 0]? = some (.ow 1 0 p ((lvL o 0 p).map inD)) := rowT_get o 0 p
     have hnd : nodeN o 0 p = if lfB o (4 * p) j = [] then 0 else sumH 2166136261 (lfB o (4 * p) j) := by rw [nodeN, hend]
     generalize lfB o (4 * p) j = B at *
     by_cases hB : B = []
     ·subst hB
      rw [if_pos rfl] at hnd
      have hpx : (lvL o 0 p).map inD ++ [inD 0] = (lvL o 0 (p + 1)).map inD := by rw [lvL_succ, hnd]; simp
      try (conv => whnf)
      repeat' (first
       | (refine Need.mk ?_ ?_; (focus (first | (show rechs _ _ _ _; (conv => whnf); (repeat (first | (refine Need.mk ?_ ?_; (focus (first | with_reducible rfl | omega | (simp; done) | rfl)); conv => whnf) | (refine Pick.mk ?_ ?_ ?_; rotate_left; (focus (first | with_reducible exact xor_u8 _ _ | (with_reducible refine xor_i64 ?_ ?_; all_goals omega) | (with_reducible refine xor_u32 ?_ ?_; all_goals omega) | with_reducible exact hprev | with_reducible exact d0 | with_reducible exact d1 | exact hg0 | with_reducible exact rowT_get _ _ _ | exact rowT_put _ hk8 _ _ rfl | exact rowT_put _ hk8 _ _ hpx | assumption | with_reducible exact set_byN _ _ _ _ | with_reducible exact set_byI _ _ _ _ | with_reducible exact set_inN _ _ _ _ | with_reducible exact set_inI _ _ _ _ | with_reducible exact set_stN _ _ _ _ | with_reducible exact set_tsN _ _ _ _ | with_reducible exact set_tsI _ _ _ _ | with_reducible exact set_boN _ _ _ _ | with_reducible exact set_boI _ _ _ _ | (with_reducible refine get_mapN _ _ _ ?_; first | omega | (simp; omega)) | (with_reducible refine get_mapI _ _ _ ?_ ?_ <;> first | omega | (simp; omega)) | exact bs_beq _ _ | exact bs_less _ _ | exact bs_leq _ _ | with_reducible exact bs_app _ _ | (refine bs_get _ _ ?_; omega) | (refine bs_int _ _ ?_ ?_ <;> omega) | with_reducible exact sl_map0 _ _ _ | with_reducible exact sl_mapN _ _ _ | with_reducible exact sl_map _ _ _ _ | exact bs_extract0 _ _ | exact bs_extractN _ _ | exact bs_extract _ _ _ | (refine bnd_id ?_; omega) | (refine bnd_sub ?_ ?_ <;> omega) | (refine bnd_add ?_; omega) | (refine bnd_subN ?_ ?_ <;> omega) | (refine bnd_int ?_ ?_ <;> omega) | ((show @Eq Nat (_ + Int.toNat _ * _) _); simp only [Int.toNat_natCast, Nat.zero_add, Nat.mul_one]; rfl) | ((show @Eq (List _) (List.set [_] _ _) _); simp only [List.set_cons_zero]; rfl) | exact List.length_map _ | exact size_bs _ | (simp only [List.length_map, List.length_append, List.length_cons, List.length_nil, List.length_replicate, Nat.zero_add]; rfl) | with_reducible exact List.nil_append _ | with_reducible exact map_app _ _ _ | exact map_snoc byD _ _ | exact map_snoc inD _ _ | exact map_snoc stD _ _ | exact map_snoc tsD _ _ | (simp only [chunks]; rfl) | (refine wid ?_ ?_ <;> omega) | exact wby _ | with_reducible exact wby32 _ | with_reducible exact wu32 _ | exact wby64 _ | exact shr8 _ | exact shr16 _ | exact shr24 _ | exact shr32 _ | (refine tmodn ?_; omega) | (refine wdiv ?_ ?_ ?_ <;> omega) | exact wbyte _ | exact natlit _ | exact rep_by _ | exact rep_in _ | exact rep_bo _ | exact rep_st _ | (refine pick_nat _ _ _ ?_; omega) | (refine pick_int _ _ _ ?_ ?_ <;> omega) | (refine SlOf.full ?_; first | (simp; done) | (simp; omega)) | (with_reducible refine SlOf.pre _ _ ?_; first | omega | (simp; omega)) | (refine SlF.self _ _ ?_ ?_; (first | rfl | omega | (simp; done) | (simp; omega)); (exact fun _ => rfl)) | (refine SlF.pre _ _ ?_ ?_; (first | omega | (simp; omega)); (exact fun _ => rfl)) | (refine SlF.same ?_ ?_; (first | rfl | omega | (simp; done) | (simp; omega)); (first | exact fz_self _ _ (fun _ => rfl) | exact fz_pl rfl | (refine Fz.append ?_ ?_ <;> first | exact fz_self _ _ (fun _ => rfl) | exact fz_pl rfl) | (refine Fz.append (Fz.append ?_ ?_) ?_ <;> first | exact fz_self _ _ (fun _ => rfl) | exact fz_pl rfl))) | (simp only [Int.toNat_natCast, Nat.zero_add, Nat.mul_one]; rfl) | ((show @Eq (Option CV) _ _); rfl) | ((fail_if_success (show @Eq (Option _) _ _)); rfl) | ((show @Eq (Option _) _ _); simp only [List.getElem?_cons_zero, List.getElem?_cons_succ]; done) | ((show @Eq (Option _) _ _); simp only [List.getElem?_cons_zero, List.getElem?_cons_succ]; rfl) | with_reducible rfl)); conv => whnf))); exact Done.mk trivial) | omega | (simp only [List.length_map, List.length_append, List.length_cons, List.length_nil, List.length_replicate]; omega) | (simp; done) | rfl | (first | exact fz_self _ _ (fun _ => rfl) | exact fz_pl rfl | (refine Fz.append ?_ ?_ <;> first | exact fz_self _ _ (fun _ => rfl) | exact fz_pl rfl) | (refine Fz.append (Fz.append ?_ ?_) ?_ <;> first | exact fz_self _ _ (fun _ => rfl) | exact fz_pl rfl)))); conv => whnf)
       | (refine Pick.mk ?_ ?_ ?_; rotate_left; (focus (first | exact hg0 | exact rowT_put _ hk8 _ _ rfl | assumption | ((show @Eq Nat (_ + Int.toNat _ * _) _); simp only [Int.toNat_natCast, Nat.zero_add, Nat.mul_one]; rfl) | ((show @Eq (List _) (List.set [_] _ _) _); simp only [List.set_cons_zero]; rfl) | exact List.length_map _ | (simp only [List.length_map, List.length_append, List.length_cons, List.length_nil, List.length_replicate, Nat.zero_add]; rfl) | (simp only [chunks]; rfl) | (refine wid ?_ ?_ <;> omega) | (refine SlOf.full ?_; first | (simp; done) | (simp; omega)) | ((show @Eq (Option _) _ _); simp only [List.getElem?_cons_zero, List.getElem?_cons_succ]; rfl))); conv => whnf)
       | (refine OwnQ.mk true ?_; conv => whnf)
       | (refine SeqJ.thru ?_; conv => whnf)
       | (refine br_dec (fun _ => ?_) (fun _ => ?_) <;> first | (exfalso; omega) | contradiction | conv => whnf)
       | (refine br_not ?_; conv => whnf)
       | (refine br_bne (fun _ => ?_) (fun _ => ?_) <;> first | (exfalso; omega) | contradiction | conv => whnf)
       | (refine br_beq (fun _ => ?_) (fun _ => ?_) <;> first | (exfalso; omega) | contradiction | conv => whnf))
      all_goals
       refine Pick.mk (p + 1) (by constructor <;> first | omega | (simp only []; omega)) (LeX.of ?_)
       try (conv => whnf)
       repeat (refine Need.mk ?_ ?_; (focus (first | omega | (simp; done) | rfl)); conv => whnf)
       trivial
     ·have hBl : 0 < B.length := by cases B with | nil => exact absurd rfl hB | cons => simp
      rw [if_neg hB] at hnd
      have hpx : (lvL o 0 p).map inD ++ [inD ((sumH 2166136261 B : Nat) : Int)] = (lvL o 0 (p + 1)).map inD := by rw [lvL_succ, hnd]; simp
      try (conv => whnf)
      repeat' (first
       | (refine Pick.mk ?_ ?_ ?_; rotate_left; (focus (first | exact List.length_map _ | (refine wid ?_ ?_ <;> omega))); conv => whnf)
       | (refine SeqJ.thru ?_; conv => whnf)
       | (refine br_dec (fun _ => ?_) (fun _ => ?_) <;> first | (exfalso; omega) | contradiction | conv => whnf)
       | (refine br_not ?_; conv => whnf)
       | (refine br_bne (fun _ => ?_) (fun _ => ?_) <;> first | (exfalso; omega) | contradiction | conv => whnf)
       | (refine br_beq (fun _ => ?_) (fun _ => ?_) <;> first | (exfalso; omega) | contradiction | conv => whnf))
      all_goals
       refine Hand.mk [] ?_
       try (conv => whnf)
       repeat (refine Pick.mk ?_ ?_ ?_; rotate_left; (focus ((refine SlF.self _ _ ?_ ?_; (first | rfl | omega | (simp; done) | (simp; omega)); (exact fun _ => rfl)))); conv => whnf)
       refine CallW.d (i_sum32 B (by omega)) ?_
       try (conv => whnf)
       repeat (first
        | (refine Need.mk ?_ ?_; (focus (first | (show rechs _ _ _ _; (conv => whnf); (repeat (first | (refine Need.mk ?_ ?_; (focus (first | with_reducible rfl | omega | (simp; done) | rfl)); conv => whnf) | (refine Pick.mk ?_ ?_ ?_; rotate_left; (focus (first | with_reducible exact xor_u8 _ _ | (with_reducible refine xor_i64 ?_ ?_; all_goals omega) | (with_reducible refine xor_u32 ?_ ?_; all_goals omega) | with_reducible exact hprev | with_reducible exact d0 | with_reducible exact d1 | exact hg0 | with_reducible exact rowT_get _ _ _ | exact rowT_put _ hk8 _ _ rfl | exact rowT_put _ hk8 _ _ hpx | assumption | with_reducible exact set_byN _ _ _ _ | with_reducible exact set_byI _ _ _ _ | with_reducible exact set_inN _ _ _ _ | with_reducible exact set_inI _ _ _ _ | with_reducible exact set_stN _ _ _ _ | with_reducible exact set_tsN _ _ _ _ | with_reducible exact set_tsI _ _ _ _ | with_reducible exact set_boN _ _ _ _ | with_reducible exact set_boI _ _ _ _ | (with_reducible refine get_mapN _ _ _ ?_; first | omega | (simp; omega)) | (with_reducible refine get_mapI _ _ _ ?_ ?_ <;> first | omega | (simp; omega)) | exact bs_beq _ _ | exact bs_less _ _ | exact bs_leq _ _ | with_reducible exact bs_app _ _ | (refine bs_get _ _ ?_; omega) | (refine bs_int _ _ ?_ ?_ <;> omega) | with_reducible exact sl_map0 _ _ _ | with_reducible exact sl_mapN _ _ _ | with_reducible exact sl_map _ _ _ _ | exact bs_extract0 _ _ | exact bs_extractN _ _ | exact bs_extract _ _ _ | (refine bnd_id ?_; omega) | (refine bnd_sub ?_ ?_ <;> omega) | (refine bnd_add ?_; omega) | (refine bnd_subN ?_ ?_ <;> omega) | (refine bnd_int ?_ ?_ <;> omega) | ((show @Eq Nat (_ + Int.toNat _ * _) _); simp only [Int.toNat_natCast, Nat.zero_add, Nat.mul_one]; rfl) | ((show @Eq (List _) (List.set [_] _ _) _); simp only [List.set_cons_zero]; rfl) | exact List.length_map _ | exact size_bs _ | (simp only [List.length_map, List.length_append, List.length_cons, List.length_nil, List.length_replicate, Nat.zero_add]; rfl) | with_reducible exact List.nil_append _ | with_reducible exact map_app _ _ _ | exact map_snoc byD _ _ | exact map_snoc inD _ _ | exact map_snoc stD _ _ | exact map_snoc tsD _ _ | (simp only [chunks]; rfl) | (refine wid ?_ ?_ <;> omega) | exact wby _ | with_reducible exact wby32 _ | with_reducible exact wu32 _ | exact wby64 _ | exact shr8 _ | exact shr16 _ | exact shr24 _ | exact shr32 _ | (refine tmodn ?_; omega) | (refine wdiv ?_ ?_ ?_ <;> omega) | exact wbyte _ | exact natlit _ | exact rep_by _ | exact rep_in _ | exact rep_bo _ | exact rep_st _ | (refine pick_nat _ _ _ ?_; omega) | (refine pick_int _ _ _ ?_ ?_ <;> omega) | (refine SlOf.full ?_; first | (simp; done) | (simp; omega)) | (with_reducible refine SlOf.pre _ _ ?_; first | omega | (simp; omega)) | (refine SlF.self _ _ ?_ ?_; (first | rfl | omega | (simp; done) | (simp; omega)); (exact fun _ => rfl)) | (refine SlF.pre _ _ ?_ ?_; (first | omega | (simp; omega)); (exact fun _ => rfl)) | (refine SlF.same ?_ ?_; (first | rfl | omega | (simp; done) | (simp; omega)); (first | exact fz_self _ _ (fun _ => rfl) | exact fz_pl rfl | (refine Fz.append ?_ ?_ <;> first | exact fz_self _ _ (fun _ => rfl) | exact fz_pl rfl) | (refine Fz.append (Fz.append ?_ ?_) ?_ <;> first | exact fz_self _ _ (fun _ => rfl) | exact fz_pl rfl))) | (simp only [Int.toNat_natCast, Nat.zero_add, Nat.mul_one]; rfl) | ((show @Eq (Option CV) _ _); rfl) | ((fail_if_success (show @Eq (Option _) _ _)); rfl) | ((show @Eq (Option _) _ _); simp only [List.getElem?_cons_zero, List.getElem?_cons_succ]; done) | ((show @Eq (Option _) _ _); simp only [List.getElem?_cons_zero, List.getElem?_cons_succ]; rfl) | with_reducible rfl)); conv => whnf))); exact Done.mk trivial) | omega | (simp only [List.length_map, List.length_append, List.length_cons, List.length_nil, List.length_replicate]; omega) | (simp; done) | rfl | (first | exact fz_self _ _ (fun _ => rfl) | exact fz_pl rfl | (refine Fz.append ?_ ?_ <;> first | exact fz_self _ _ (fun _ => rfl) | exact fz_pl rfl) | (refine Fz.append (Fz.append ?_ ?_) ?_ <;> first | exact fz_self _ _ (fun _ => rfl) | exact fz_pl rfl)))); conv => whnf)
        | (refine Pick.mk ?_ ?_ ?_; rotate_left; (focus (first | exact hg0 | exact rowT_put _ hk8 _ _ rfl | assumption | ((show @Eq Nat (_ + Int.toNat _ * _) _); simp only [Int.toNat_natCast, Nat.zero_add, Nat.mul_one]; rfl) | ((show @Eq (List _) (List.set [_] _ _) _); simp only [List.set_cons_zero]; rfl) | (simp only [List.length_map, List.length_append, List.length_cons, List.length_nil, List.length_replicate, Nat.zero_add]; rfl) | (simp only [chunks]; rfl) | (refine wid ?_ ?_ <;> omega) | (refine SlOf.full ?_; first | (simp; done) | (simp; omega)) | ((show @Eq (Option _) _ _); simp only [List.getElem?_cons_zero, List.getElem?_cons_succ]; rfl))); conv => whnf)
        | (refine OwnQ.mk true ?_; conv => whnf))
       refine Pick.mk (p + 1) (by constructor <;> first | omega | (simp only []; omega)) (LeX.of ?_)
       try (conv => whnf)
       repeat (refine Need.mk ?_ ?_; (focus (first | omega | (simp; done) | rfl)); conv => whnf)
       trivial
  ·obtain rfl : p = 256 := by omega
   try (conv => whnf)
   repeat' (first
    | (refine SeqJ.thru ?_; conv => whnf)
    | (refine br_dec (fun _ => ?_) (fun _ => ?_) <;> first | (exfalso; omega) | contradiction | conv => whnf)
    | (refine br_not ?_; conv => whnf)
    | (refine br_bne (fun _ => ?_) (fun _ => ?_) <;> first | (exfalso; omega) | contradiction | conv => whnf)
    | (refine br_beq (fun _ => ?_) (fun _ => ?_) <;> first | (exfalso; omega) | contradiction | conv => whnf))
   refine LoopE.mk (fun lv : Nat => mk [(3, .one (.ep (.v 8208) 9 0 0)), (8, vI .i64 lv)] [(8208, .own 9 [rowF o lv])]) (fun lv => 1 ≤ lv ∧ lv ≤ 9) (fun lv => 9 - lv) 1 ⟨by omega, by omega⟩ (LeX.frz (LeX.of ?_) (le_lv o (k := 0) (by omega) [(3, .one (.ep (.v 8208) 9 0 0)), (8, vI .i64 1)]) (LeX.of ?_)) ?_
   ·try (conv => whnf)
    repeat (refine Need.mk ?_ ?_; (focus (first | omega | (simp; done))); conv => whnf)
    trivial
   ·try (conv => whnf)
    repeat (refine Need.mk ?_ ?_; (focus (first | omega | (simp; done) | rfl)); conv => whnf)
    trivial
   ·rintro lv ⟨h1, h9⟩
    by_cases h8 : lv ≤ 8
    ·obtain ⟨M, hM⟩ : ∃ M, M = 2 ^ (8 - lv) := ⟨_, rfl⟩
     have hM1 : M ≤ 256 := by rw [hM]; exact (Nat.pow_le_pow_right (by omega) (show 8 - lv ≤ 8 by omega) : 2 ^ (8 - lv) ≤ 2 ^ 8)
     have hM2 : 2 ^ (8 - (lv - 1)) = 2 * M := by rw [hM, show 8 - (lv - 1) = (8 - lv) + 1 by omega, Nat.pow_succ, Nat.mul_comm]
     have hprev : (rowF o lv)[((lv : Int) - 1).toNat]? = some (.sl ((lvL o (lv - 1) (2 * M)).map inD)) := by
      rw [show ((lv : Int) - 1).toNat = lv - 1 by omega, rowF_get o (by omega), frD, hM2]
     have hDl : (lvL o (lv - 1) (2 * M)).length = 2 * M := by simp
     try (conv => whnf)
     repeat' (first
      | (refine Need.mk ?_ ?_; (focus (omega)); conv => whnf)
      | (refine Pick.mk ?_ ?_ ?_; rotate_left; (focus (first | with_reducible exact hprev | ((show @Eq Nat (_ + Int.toNat _ * _) _); simp only [Int.toNat_natCast, Nat.zero_add, Nat.mul_one]; rfl) | (refine wid ?_ ?_ <;> omega) | ((show @Eq (Option _) _ _); simp only [List.getElem?_cons_zero, List.getElem?_cons_succ]; rfl))); conv => whnf)
      | (refine SeqJ.thru ?_; conv => whnf)
      | (refine br_dec (fun _ => ?_) (fun _ => ?_) <;> first | (exfalso; omega) | contradiction | conv => whnf)
      | (refine br_not ?_; conv => whnf)
      | (refine br_bne (fun _ => ?_) (fun _ => ?_) <;> first | (exfalso; omega) | contradiction | conv => whnf)
      | (refine br_beq (fun _ => ?_) (fun _ => ?_) <;> first | (exfalso; omega) | contradiction | conv => whnf))
     refine LoopE.mk (fun n : Nat => mk [(3, .one (.ep (.v 8208) 9 0 0)), (8, vI .i64 lv), (9, vN (lvL o (lv - 1) (2 * M))), (10, vI .i64 ((2 * n : Nat) : Int))] [(8208, .own 9 [rowT o lv n])]) (fun n => n ≤ M) (fun n => M - n) 0 (by omega) (LeX.of ?_) ?_
     ·try (conv => whnf)
      repeat (refine Need.mk ?_ ?_; (focus (first | omega | (simp; done))); conv => whnf)
      refine Need.mk (by rw [rowF_T o h8]) ?_
      try (conv => whnf)
      trivial
     ·intro n hn
      by_cases hnM : n < M
      ·obtain ⟨X, hX⟩ : ∃ X, X = nodeN o (lv - 1) (2 * n) := ⟨_, rfl⟩
       obtain ⟨Y, hY⟩ : ∃ Y, Y = nodeN o (lv - 1) (2 * n + 1) := ⟨_, rfl⟩
       have d0 : 0 ≤ ((2 * n : Nat) : Int) ∧ ((lvL o (lv - 1) (2 * M)).map inD)[((2 * n : Nat) : Int).toNat]? = some (inD (X : Int)) := by
        have := pick_nat (lvL o (lv - 1) (2 * M)) inD (2 * n) (by omega)
        rwa [lvL_get o (lv - 1) (2 * M) (by omega), ← hX] at this
       have d1 : 0 ≤ ((2 * n : Nat) : Int) + 1 ∧ ((lvL o (lv - 1) (2 * M)).map inD)[(((2 * n : Nat) : Int) + 1).toNat]? = some (inD (Y : Int)) := by
        have := pick_nat (lvL o (lv - 1) (2 * M)) inD (2 * n + 1) (by omega)
        rwa [lvL_get o (lv - 1) (2 * M) (by omega), ← hY, show ((2 * n + 1 : Nat) : Int) = ((2 * n : Nat) : Int) + 1 by omega] at this
       have hXl := nodeN_lt o (lv - 1) (2 * n)
       have hYl := nodeN_lt o (lv - 1) (2 * n + 1)
       rw [← hX] at hXl
       rw [← hY] at hYl
       have hnd : nodeN o lv n = if X = 0 ∧ Y = 0 then 0 else sumH 2166136261 (four X ++ four Y) := by
        obtain ⟨k, rfl⟩ : ∃ k, lv = k + 1 := ⟨lv - 1, by omega⟩
        rw [nodeN, hX, hY, Nat.add_sub_cancel]
       have hk8 := h8
       have hg0 : (rowT o lv n)[((lv : Int)).toNat]? = some (.ow 1 0 n ((lvL o lv n).map inD)) := rowT_get o lv n
       by_cases hXY : X = 0 ∧ Y = 0
       ·rw [if_pos hXY] at hnd
        have hpx : (lvL o lv n).map inD ++ [inD 0] = (lvL o lv (n + 1)).map inD := by rw [lvL_succ, hnd]; simp
        try (conv => whnf)
        repeat' (first
         | (refine Need.mk ?_ ?_; (focus (first | (show rechs _ _ _ _; (conv => whnf); (repeat (first | (refine Need.mk ?_ ?_; (focus (first | with_reducible rfl | omega | (simp; done) | rfl)); conv => whnf) | (refine Pick.mk ?_ ?_ ?_; rotate_left; (focus (first | with_reducible exact xor_u8 _ _ | (with_reducible refine xor_i64 ?_ ?_; all_goals omega) | (with_reducible refine xor_u32 ?_ ?_; all_goals omega) | with_reducible exact hprev | with_reducible exact d0 | with_reducible exact d1 | exact hg0 | with_reducible exact rowT_get _ _ _ | exact rowT_put _ hk8 _ _ rfl | exact rowT_put _ hk8 _ _ hpx | assumption | with_reducible exact set_byN _ _ _ _ | with_reducible exact set_byI _ _ _ _ | with_reducible exact set_inN _ _ _ _ | with_reducible exact set_inI _ _ _ _ | with_reducible exact set_stN _ _ _ _ | with_reducible exact set_tsN _ _ _ _ | with_reducible exact set_tsI _ _ _ _ | with_reducible exact set_boN _ _ _ _ | with_reducible exact set_boI _ _ _ _ | (with_reducible refine get_mapN _ _ _ ?_; first | omega | (simp; omega)) | (with_reducible refine get_mapI _ _ _ ?_ ?_ <;> first | omega | (simp; omega)) | exact bs_beq _ _ | exact bs_less _ _ | exact bs_leq _ _ | with_reducible exact bs_app _ _ | (refine bs_get _ _ ?_; omega) | (refine bs_int _ _ ?_ ?_ <;> omega) | with_reducible exact sl_map0 _ _ _ | with_reducible exact sl_mapN _ _ _ | with_reducible exact sl_map _ _ _ _ | exact bs_extract0 _ _ | exact bs_extractN _ _ | exact bs_extract _ _ _ | (refine bnd_id ?_; omega) | (refine bnd_sub ?_ ?_ <;> omega) | (refine bnd_add ?_; omega) | (refine bnd_subN ?_ ?_ <;> omega) | (refine bnd_int ?_ ?_ <;> omega) | ((show @Eq Nat (_ + Int.toNat _ * _) _); simp only [Int.toNat_natCast, Nat.zero_add, Nat.mul_one]; rfl) | ((show @Eq (List _) (List.set [_] _ _) _); simp only [List.set_cons_zero]; rfl) | exact List.length_map _ | exact size_bs _ | (simp only [List.length_map, List.length_append, List.length_cons, List.length_nil, List.length_replicate, Nat.zero_add]; rfl) | with_reducible exact List.nil_append _ | with_reducible exact map_app _ _ _ | exact map_snoc byD _ _ | exact map_snoc inD _ _ | exact map_snoc stD _ _ | exact map_snoc tsD _ _ | (simp only [chunks]; rfl) | (refine wid ?_ ?_ <;> omega) | exact wby _ | with_reducible exact wby32 _ | with_reducible exact wu32 _ | exact wby64 _ | exact shr8 _ | exact shr16 _ | exact shr24 _ | exact shr32 _ | (refine tmodn ?_; omega) | (refine wdiv ?_ ?_ ?_ <;> omega) | exact wbyte _ | exact natlit _ | exact rep_by _ | exact rep_in _ | exact rep_bo _ | exact rep_st _ | (refine pick_nat _ _ _ ?_; omega) | (refine pick_int _ _ _ ?_ ?_ <;> omega) | (refine SlOf.full ?_; first | (simp; done) | (simp; omega)) | (with_reducible refine SlOf.pre _ _ ?_; first | omega | (simp; omega)) | (refine SlF.self _ _ ?_ ?_; (first | rfl | omega | (simp; done) | (simp; omega)); (exact fun _ => rfl)) | (refine SlF.pre _ _ ?_ ?_; (first | omega | (simp; omega)); (exact fun _ => rfl)) | (refine SlF.same ?_ ?_; (first | rfl | omega | (simp; done) | (simp; omega)); (first | exact fz_self _ _ (fun _ => rfl) | exact fz_pl rfl | (refine Fz.append ?_ ?_ <;> first | exact fz_self _ _ (fun _ => rfl) | exact fz_pl rfl) | (refine Fz.append (Fz.append ?_ ?_) ?_ <;> first | exact fz_self _ _ (fun _ => rfl) | exact fz_pl rfl))) | (simp only [Int.toNat_natCast, Nat.zero_add, Nat.mul_one]; rfl) | ((show @Eq (Option CV) _ _); rfl) | ((fail_if_success (show @Eq (Option _) _ _)); rfl) | ((show @Eq (Option _) _ _); simp only [List.getElem?_cons_zero, List.getElem?_cons_succ]; done) | ((show @Eq (Option _) _ _); simp only [List.getElem?_cons_zero, List.getElem?_cons_succ]; rfl) | with_reducible rfl)); conv => whnf))); exact Done.mk trivial) | omega | (simp only [List.length_map, List.length_append, List.length_cons, List.length_nil, List.length_replicate]; omega) | (simp; done) | rfl | (first | exact fz_self _ _ (fun _ => rfl) | exact fz_pl rfl | (refine Fz.append ?_ ?_ <;> first | exact fz_self _ _ (fun _ => rfl) | exact fz_pl rfl) | (refine Fz.append (Fz.append ?_ ?_) ?_ <;> first | exact fz_self _ _ (fun _ => rfl) | exact fz_pl rfl)))); conv => whnf)
         | (refine Pick.mk ?_ ?_ ?_; rotate_left; (focus (first | with_reducible exact d0 | with_reducible exact d1 | exact hg0 | exact rowT_put _ hk8 _ _ rfl | assumption | ((show @Eq Nat (_ + Int.toNat _ * _) _); simp only [Int.toNat_natCast, Nat.zero_add, Nat.mul_one]; rfl) | ((show @Eq (List _) (List.set [_] _ _) _); simp only [List.set_cons_zero]; rfl) | exact List.length_map _ | (simp only [List.length_map, List.length_append, List.length_cons, List.length_nil, List.length_replicate, Nat.zero_add]; rfl) | (simp only [chunks]; rfl) | (refine wid ?_ ?_ <;> omega) | (refine SlOf.full ?_; first | (simp; done) | (simp; omega)) | ((show @Eq (Option _) _ _); simp only [List.getElem?_cons_zero, List.getElem?_cons_succ]; rfl))); conv => whnf)
         | (refine OwnQ.mk true ?_; conv => whnf)
         | (refine SeqJ.thru ?_; conv => whnf)
         | (refine br_dec (fun _ => ?_) (fun _ => ?_) <;> first | (exfalso; omega) | contradiction | conv => whnf)
         | (refine br_not ?_; conv => whnf)
         | (refine br_bne (fun _ => ?_) (fun _ => ?_) <;> first | (exfalso; omega) | contradiction | conv => whnf)
         | (refine br_beq (fun _ => ?_) (fun _ => ?_) <;> first | (exfalso; omega) | contradiction | conv => whnf))
        refine Pick.mk (n + 1) (by constructor <;> first | omega | (simp only []; omega)) (LeX.of ?_)
        try (conv => whnf)
        repeat (refine Need.mk ?_ ?_; (focus (first | omega | (simp; done) | rfl)); conv => whnf)
        trivial
       ·rw [if_neg hXY] at hnd
        have hpx : (lvL o lv n).map inD ++ [inD ((sumH 2166136261 (four X ++ four Y) : Nat) : Int)] = (lvL o lv (n + 1)).map inD := by rw [lvL_succ, hnd]; simp
        have hsl := sumH_lt (h := 2166136261) (by omega) (four X ++ four Y)
        try (conv => whnf)
        repeat' (first
         | (refine Pick.mk ?_ ?_ ?_; rotate_left; (focus (first | with_reducible exact d0 | with_reducible exact d1 | exact List.length_map _ | (refine wid ?_ ?_ <;> omega))); conv => whnf)
         | (refine SeqJ.thru ?_; conv => whnf)
         | (refine br_dec (fun _ => ?_) (fun _ => ?_) <;> first | (exfalso; omega) | contradiction | conv => whnf)
         | (refine br_not ?_; conv => whnf)
         | (refine br_bne (fun _ => ?_) (fun _ => ?_) <;> first | (exfalso; omega) | contradiction | conv => whnf)
         | (refine br_beq (fun _ => ?_) (fun _ => ?_) <;> first | (exfalso; omega) | contradiction | conv => whnf))
        all_goals
         refine Hand.mk [] ?_
         try (conv => whnf)
         refine CallW.d (i_append4_nil X (by omega) (by omega)) ?_
         try (conv => whnf)
         repeat (refine Need.mk ?_ ?_; (focus ((show rechs _ _ _ _; (conv => whnf); (repeat (first | (refine Need.mk ?_ ?_; (focus (first | with_reducible rfl | omega | (simp; done) | rfl)); conv => whnf) | (refine Pick.mk ?_ ?_ ?_; rotate_left; (focus (first | with_reducible exact xor_u8 _ _ | (with_reducible refine xor_i64 ?_ ?_; all_goals omega) | (with_reducible refine xor_u32 ?_ ?_; all_goals omega) | with_reducible exact hprev | with_reducible exact d0 | with_reducible exact d1 | exact hg0 | with_reducible exact rowT_get _ _ _ | exact rowT_put _ hk8 _ _ rfl | exact rowT_put _ hk8 _ _ hpx | assumption | with_reducible exact set_byN _ _ _ _ | with_reducible exact set_byI _ _ _ _ | with_reducible exact set_inN _ _ _ _ | with_reducible exact set_inI _ _ _ _ | with_reducible exact set_stN _ _ _ _ | with_reducible exact set_tsN _ _ _ _ | with_reducible exact set_tsI _ _ _ _ | with_reducible exact set_boN _ _ _ _ | with_reducible exact set_boI _ _ _ _ | (with_reducible refine get_mapN _ _ _ ?_; first | omega | (simp; omega)) | (with_reducible refine get_mapI _ _ _ ?_ ?_ <;> first | omega | (simp; omega)) | exact bs_beq _ _ | exact bs_less _ _ | exact bs_leq _ _ | with_reducible exact bs_app _ _ | (refine bs_get _ _ ?_; omega) | (refine bs_int _ _ ?_ ?_ <;> omega) | with_reducible exact sl_map0 _ _ _ | with_reducible exact sl_mapN _ _ _ | with_reducible exact sl_map _ _ _ _ | exact bs_extract0 _ _ | exact bs_extractN _ _ | exact bs_extract _ _ _ | (refine bnd_id ?_; omega) | (refine bnd_sub ?_ ?_ <;> omega) | (refine bnd_add ?_; omega) | (refine bnd_subN ?_ ?_ <;> omega) | (refine bnd_int ?_ ?_ <;> omega) | ((show @Eq Nat (_ + Int.toNat _ * _) _); simp only [Int.toNat_natCast, Nat.zero_add, Nat.mul_one]; rfl) | ((show @Eq (List _) (List.set [_] _ _) _); simp only [List.set_cons_zero]; rfl) | exact List.length_map _ | exact size_bs _ | (simp only [List.length_map, List.length_append, List.length_cons, List.length_nil, List.length_replicate, Nat.zero_add]; rfl) | with_reducible exact List.nil_append _ | with_reducible exact map_app _ _ _ | exact map_snoc byD _ _ | exact map_snoc inD _ _ | exact map_snoc stD _ _ | exact map_snoc tsD _ _ | (simp only [chunks]; rfl) | (refine wid ?_ ?_ <;> omega) | exact wby _ | with_reducible exact wby32 _ | with_reducible exact wu32 _ | exact wby64 _ | exact shr8 _ | exact shr16 _ | exact shr24 _ | exact shr32 _ | (refine tmodn ?_; omega) | (refine wdiv ?_ ?_ ?_ <;> omega) | exact wbyte _ | exact natlit _ | exact rep_by _ | exact rep_in _ | exact rep_bo _ | exact rep_st _ | (refine pick_nat _ _ _ ?_; omega) | (refine pick_int _ _ _ ?_ ?_ <;> omega) | (refine SlOf.full ?_; first | (simp; done) | (simp; omega)) | (with_reducible refine SlOf.pre _ _ ?_; first | omega | (simp; omega)) | (refine SlF.self _ _ ?_ ?_; (first | rfl | omega | (simp; done) | (simp; omega)); (exact fun _ => rfl)) | (refine SlF.pre _ _ ?_ ?_; (first | omega | (simp; omega)); (exact fun _ => rfl)) | (refine SlF.same ?_ ?_; (first | rfl | omega | (simp; done) | (simp; omega)); (first | exact fz_self _ _ (fun _ => rfl) | exact fz_pl rfl | (refine Fz.append ?_ ?_ <;> first | exact fz_self _ _ (fun _ => rfl) | exact fz_pl rfl) | (refine Fz.append (Fz.append ?_ ?_) ?_ <;> first | exact fz_self _ _ (fun _ => rfl) | exact fz_pl rfl))) | (simp only [Int.toNat_natCast, Nat.zero_add, Nat.mul_one]; rfl) | ((show @Eq (Option CV) _ _); rfl) | ((fail_if_success (show @Eq (Option _) _ _)); rfl) | ((show @Eq (Option _) _ _); simp only [List.getElem?_cons_zero, List.getElem?_cons_succ]; done) | ((show @Eq (Option _) _ _); simp only [List.getElem?_cons_zero, List.getElem?_cons_succ]; rfl) | with_reducible rfl)); conv => whnf))); exact Done.mk trivial))); conv => whnf)
         refine Hand.mk [0] ?_
         try (conv => whnf)
         refine CallW.m (i_append4' (four X) 4 Y (by simp) (by omega) (by omega) (by omega)) ?_
         try (conv => whnf)
         refine Hand.mk [] ?_
         try (conv => whnf)
         repeat (refine Pick.mk ?_ ?_ ?_; rotate_left; (focus ((refine SlF.self _ _ ?_ ?_; (first | rfl | omega | (simp; done) | (simp; omega)); (exact fun _ => rfl)))); conv => whnf)
         refine CallW.d (i_sum32 (four X ++ four Y) (by simp)) ?_
         try (conv => whnf)
         repeat (first
          | (refine Need.mk ?_ ?_; (focus (first | (show rechs _ _ _ _; (conv => whnf); (repeat (first | (refine Need.mk ?_ ?_; (focus (first | with_reducible rfl | omega | (simp; done) | rfl)); conv => whnf) | (refine Pick.mk ?_ ?_ ?_; rotate_left; (focus (first | with_reducible exact xor_u8 _ _ | (with_reducible refine xor_i64 ?_ ?_; all_goals omega) | (with_reducible refine xor_u32 ?_ ?_; all_goals omega) | with_reducible exact hprev | with_reducible exact d0 | with_reducible exact d1 | exact hg0 | with_reducible exact rowT_get _ _ _ | exact rowT_put _ hk8 _ _ rfl | exact rowT_put _ hk8 _ _ hpx | assumption | with_reducible exact set_byN _ _ _ _ | with_reducible exact set_byI _ _ _ _ | with_reducible exact set_inN _ _ _ _ | with_reducible exact set_inI _ _ _ _ | with_reducible exact set_stN _ _ _ _ | with_reducible exact set_tsN _ _ _ _ | with_reducible exact set_tsI _ _ _ _ | with_reducible exact set_boN _ _ _ _ | with_reducible exact set_boI _ _ _ _ | (with_reducible refine get_mapN _ _ _ ?_; first | omega | (simp; omega)) | (with_reducible refine get_mapI _ _ _ ?_ ?_ <;> first | omega | (simp; omega)) | exact bs_beq _ _ | exact bs_less _ _ | exact bs_leq _ _ | with_reducible exact bs_app _ _ | (refine bs_get _ _ ?_; omega) | (refine bs_int _ _ ?_ ?_ <;> omega) | with_reducible exact sl_map0 _ _ _ | with_reducible exact sl_mapN _ _ _ | with_reducible exact sl_map _ _ _ _ | exact bs_extract0 _ _ | exact bs_extractN _ _ | exact bs_extract _ _ _ | (refine bnd_id ?_; omega) | (refine bnd_sub ?_ ?_ <;> omega) | (refine bnd_add ?_; omega) | (refine bnd_subN ?_ ?_ <;> omega) | (refine bnd_int ?_ ?_ <;> omega) | ((show @Eq Nat (_ + Int.toNat _ * _) _); simp only [Int.toNat_natCast, Nat.zero_add, Nat.mul_one]; rfl) | ((show @Eq (List _) (List.set [_] _ _) _); simp only [List.set_cons_zero]; rfl) | exact List.length_map _ | exact size_bs _ | (simp only [List.length_map, List.length_append, List.length_cons, List.length_nil, List.length_replicate, Nat.zero_add]; rfl) | with_reducible exact List.nil_append _ | with_reducible exact map_app _ _ _ | exact map_snoc byD _ _ | exact map_snoc inD _ _ | exact map_snoc stD _ _ | exact map_snoc tsD _ _ | (simp only [chunks]; rfl) | (refine wid ?_ ?_ <;> omega) | exact wby _ | with_reducible exact wby32 _ | with_reducible exact wu32 _ | exact wby64 _ | exact shr8 _ | exact shr16 _ | exact shr24 _ | exact shr32 _ | (refine tmodn ?_; omega) | (refine wdiv ?_ ?_ ?_ <;> omega) | exact wbyte _ | exact natlit _ | exact rep_by _ | exact rep_in _ | exact rep_bo _ | exact rep_st _ | (refine pick_nat _ _ _ ?_; omega) | (refine pick_int _ _ _ ?_ ?_ <;> omega) | (refine SlOf.full ?_; first | (simp; done) | (simp; omega)) | (with_reducible refine SlOf.pre _ _ ?_; first | omega | (simp; omega)) | (refine SlF.self _ _ ?_ ?_; (first | rfl | omega | (simp; done) | (simp; omega)); (exact fun _ => rfl)) | (refine SlF.pre _ _ ?_ ?_; (first | omega | (simp; omega)); (exact fun _ => rfl)) | (refine SlF.same ?_ ?_; (first | rfl | omega | (simp; done) | (simp; omega)); (first | exact fz_self _ _ (fun _ => rfl) | exact fz_pl rfl | (refine Fz.append ?_ ?_ <;> first | exact fz_self _ _ (fun _ => rfl) | exact fz_pl rfl) | (refine Fz.append (Fz.append ?_ ?_) ?_ <;> first | exact fz_self _ _ (fun _ => rfl) | exact fz_pl rfl))) | (simp only [Int.toNat_natCast, Nat.zero_add, Nat.mul_one]; rfl) | ((show @Eq (Option CV) _ _); rfl) | ((fail_if_success (show @Eq (Option _) _ _)); rfl) | ((show @Eq (Option _) _ _); simp only [List.getElem?_cons_zero, List.getElem?_cons_succ]; done) | ((show @Eq (Option _) _ _); simp only [List.getElem?_cons_zero, List.getElem?_cons_succ]; rfl) | with_reducible rfl)); conv => whnf))); exact Done.mk trivial) | omega | (simp only [List.length_map, List.length_append, List.length_cons, List.length_nil, List.length_replicate]; omega) | (simp; done) | rfl | (first | exact fz_self _ _ (fun _ => rfl) | exact fz_pl rfl | (refine Fz.append ?_ ?_ <;> first | exact fz_self _ _ (fun _ => rfl) | exact fz_pl rfl) | (refine Fz.append (Fz.append ?_ ?_) ?_ <;> first | exact fz_self _ _ (fun _ => rfl) | exact fz_pl rfl)))); conv => whnf)
          | (refine Pick.mk ?_ ?_ ?_; rotate_left; (focus (first | exact hg0 | exact rowT_put _ hk8 _ _ rfl | assumption | ((show @Eq Nat (_ + Int.toNat _ * _) _); simp only [Int.toNat_natCast, Nat.zero_add, Nat.mul_one]; rfl) | ((show @Eq (List _) (List.set [_] _ _) _); simp only [List.set_cons_zero]; rfl) | (simp only [List.length_map, List.length_append, List.length_cons, List.length_nil, List.length_replicate, Nat.zero_add]; rfl) | (simp only [chunks]; rfl) | (refine wid ?_ ?_ <;> omega) | (refine SlOf.full ?_; first | (simp; done) | (simp; omega)) | ((show @Eq (Option _) _ _); simp only [List.getElem?_cons_zero, List.getElem?_cons_succ]; rfl))); conv => whnf)
          | (refine OwnQ.mk true ?_; conv => whnf))
         refine Pick.mk (n + 1) (by constructor <;> first | omega | (simp only []; omega)) (LeX.of ?_)
         try (conv => whnf)
         repeat (refine Need.mk ?_ ?_; (focus (first | omega | (simp; done) | rfl)); conv => whnf)
         trivial
      ·have hnM2 : n = M := by omega
       try (conv => whnf)
       repeat' (first
        | (refine Pick.mk ?_ ?_ ?_; rotate_left; (focus (first | exact List.length_map _ | (refine wid ?_ ?_ <;> omega))); conv => whnf)
        | (refine SeqJ.thru ?_; conv => whnf)
        | (refine br_dec (fun _ => ?_) (fun _ => ?_) <;> first | (exfalso; omega) | contradiction | conv => whnf)
        | (refine br_not ?_; conv => whnf)
        | (refine br_bne (fun _ => ?_) (fun _ => ?_) <;> first | (exfalso; omega) | contradiction | conv => whnf)
        | (refine br_beq (fun _ => ?_) (fun _ => ?_) <;> first | (exfalso; omega) | contradiction | conv => whnf))
       refine Pick.mk (lv + 1) ⟨⟨by omega, by omega⟩, by omega⟩ (LeX.frz (LeX.of ?_) (le_lv o (k := lv) h8 [(3, .one (.ep (.v 8208) 9 0 0)), (8, vI .i64 ((lv + 1 : Nat) : Int))]) (LeX.of ?_))
       ·try (conv => whnf)
        repeat (refine Need.mk ?_ ?_; (focus (first | omega | (simp; done))); conv => whnf)
        refine Need.mk (by rw [hnM2, hM]) ?_
        try (conv => whnf)
        trivial
       ·try (conv => whnf)
        repeat (refine Need.mk ?_ ?_; (focus (first | omega | (simp; done) | rfl)); conv => whnf)
        trivial
    ·have h92 : lv = 9 := by omega
     try (conv => whnf)
     repeat' (first
      | (refine SeqJ.thru ?_; conv => whnf)
      | (refine br_dec (fun _ => ?_) (fun _ => ?_) <;> first | (exfalso; omega) | contradiction | conv => whnf)
      | (refine br_not ?_; conv => whnf)
      | (refine br_bne (fun _ => ?_) (fun _ => ?_) <;> first | (exfalso; omega) | contradiction | conv => whnf)
      | (refine br_beq (fun _ => ?_) (fun _ => ?_) <;> first | (exfalso; omega) | contradiction | conv => whnf))
     refine Out.mk false [0, 1, 2, 3, 4] [] ?_
     try (conv => whnf)
     exact ⟨⟨rfl, by rw [h92]⟩⟩
theorem le_bk (l : List OpV) {a : Nat} (ha : a < 16) (h : ∀ x ∈ l, OpOk x) (ts : List (Nat × SV)) : Le (mk ts [(8208, .own 120 [bookD (bookOf l)])]) (((mk ts [(8208, .own 120 [bookD (bookOf l)])]).killH 8208).new 8208 (.own 120 [(bookD (bookOf l)).set a (.sl ((own l a).map oD))])) := by
 have hb := bookOf_own h (a := (a : Int)) ⟨by omega, by omega⟩
 have hk := bk_of (bookOf_wf l) ha
 rw [Int.toNat_natCast] at hb
 rw [hb] at hk
 exact le_frzH (S := mk ts [(8208, .own 120 [bookD (bookOf l)])]) (p := 8208) (k := 120) (i := 0) (j := a) (es := [bookD (bookOf l)]) (e := bookD (bookOf l)) ⟨by omega, by simp [TKN]⟩ rfl rfl hk (by simp) (xs := (own l a).map oD) (by
  rw [List.drop_zero, List.take_of_length_le (by simp)]; exact fz_self _ _ (fun _ => rfl))
theorem i_TreeSum (l : List OpV) (a k p : Int) (hw : ∀ o ∈ l, o.key.length ≤ 2 ^ 40 ∧ o.text.length ≤ 2 ^ 40) : CallD Try.prog id_impl_TreeSum [vL l, vI .i64 a, vI .i64 k, vI .i64 p] [] (trR l a k p) [] := by
 refine F_impl_TreeSum ?_
 try (conv => whnf)
 refine Hand.mk [] ?_
 try (conv => whnf)
 refine CallW.n (i_readBook l hw) ?_
 rintro _ _ (⟨h1, rfl, rfl⟩ | ⟨h1, rfl, rfl⟩)
 rotate_left
 ·have hc : trC l a k p = 1 := if_neg h1
  try (conv => whnf)
  repeat' (first
   | (refine SeqJ.thru ?_; conv => whnf)
   | (refine br_dec (fun _ => ?_) (fun _ => ?_) <;> first | (exfalso; omega) | contradiction | conv => whnf)
   | (refine br_not ?_; conv => whnf)
   | (refine br_bne (fun _ => ?_) (fun _ => ?_) <;> first | (exfalso; omega) | contradiction | conv => whnf)
   | (refine br_beq (fun _ => ?_) (fun _ => ?_) <;> first | (exfalso; omega) | contradiction | conv => whnf))
  refine Out.mk true [] [] ?_
  try (conv => whnf)
  exact ⟨trErr hc (by omega), rfl⟩
 have hbad : ¬ trP a k p → trC l a k p = 4 := fun h => by rw [trC, if_pos h1, if_neg h]
 by_cases ha : actOk a
 rotate_left
 ·have hr := trErr (hbad fun h => ha h.1) (by omega)
  try (conv => whnf)
  repeat' (first
   | (refine SeqJ.thru ?_; conv => whnf)
   | (refine br_dec (fun _ => ?_) (fun _ => ?_) <;> first | (exfalso; omega) | contradiction | conv => whnf)
   | (refine br_not ?_; conv => whnf)
   | (refine br_bne (fun _ => ?_) (fun _ => ?_) <;> first | (exfalso; omega) | contradiction | conv => whnf)
   | (refine br_beq (fun _ => ?_) (fun _ => ?_) <;> first | (exfalso; omega) | contradiction | conv => whnf))
  refine Hand.mk [] ?_
  try (conv => whnf)
  refine CallW.d (i_isActor' a) ?_
  try (conv => whnf)
  try (conv => whnf)
  repeat' (first
   | (refine br_dec (fun _ => ?_) (fun _ => ?_) <;> first | (exfalso; omega) | contradiction | conv => whnf)
   | (refine br_not ?_; conv => whnf)
   | (refine br_bne (fun _ => ?_) (fun _ => ?_) <;> first | (exfalso; omega) | contradiction | conv => whnf)
   | (refine br_beq (fun _ => ?_) (fun _ => ?_) <;> first | (exfalso; omega) | contradiction | conv => whnf))
  refine Out.mk true [] [] ?_
  try (conv => whnf)
  exact ⟨hr, rfl⟩
 by_cases h2 : (0 ≤ k ∧ k ≤ 8) ∧ 0 ≤ p
 rotate_left
 ·have hr := trErr (hbad fun h => h2 ⟨h.2.1, h.2.2.1⟩) (by omega)
  try (conv => whnf)
  repeat' (first
   | (refine SeqJ.thru ?_; conv => whnf)
   | (refine br_dec (fun _ => ?_) (fun _ => ?_) <;> first | (exfalso; omega) | contradiction | conv => whnf)
   | (refine br_not ?_; conv => whnf)
   | (refine br_bne (fun _ => ?_) (fun _ => ?_) <;> first | (exfalso; omega) | contradiction | conv => whnf)
   | (refine br_beq (fun _ => ?_) (fun _ => ?_) <;> first | (exfalso; omega) | contradiction | conv => whnf))
  refine Hand.mk [] ?_
  try (conv => whnf)
  refine CallW.d (i_isActor' a) ?_
  try (conv => whnf)
  try (conv => whnf)
  repeat' (first
   | (refine br_dec (fun _ => ?_) (fun _ => ?_) <;> first | (exfalso; omega) | contradiction | conv => whnf)
   | (refine br_not ?_; conv => whnf)
   | (refine br_bne (fun _ => ?_) (fun _ => ?_) <;> first | (exfalso; omega) | contradiction | conv => whnf)
   | (refine br_beq (fun _ => ?_) (fun _ => ?_) <;> first | (exfalso; omega) | contradiction | conv => whnf))
  all_goals
   refine Out.mk true [] [] ?_
   try (conv => whnf)
   exact ⟨hr, rfl⟩
 obtain ⟨⟨k0, k8⟩, p0⟩ := id h2
 obtain ⟨K, hK⟩ : ∃ K : Nat, 8 - k = K := ⟨(8 - k).toNat, by omega⟩
 have hP2 : 2 ^ K ≤ 2 ^ 8 := Nat.pow_le_pow_right (by omega) (by omega)
 have htr : trP a k p ↔ p < ((2 ^ K : Nat) : Int) := by
  unfold trP
  rw [show (8 - k).toNat = K by omega]
  exact ⟨fun h => h.2.2.2, fun h => ⟨ha, h2.1, p0, h⟩⟩
 obtain ⟨P, hP⟩ : ∃ P, P = 2 ^ K := ⟨_, rfl⟩
 rw [← hP] at htr hP2
 have hsh : IntKind.i64.wrap (1 * 2 ^ min (8 - k).toNat (IntKind.i64).bits) = (P : Int) := by
  rw [show min (8 - k).toNat (IntKind.i64).bits = K by simp only [IntKind.bits]; omega, Int.one_mul, hP]
  have : (2 : Int) ^ K = ((2 ^ K : Nat) : Int) := by push_cast; rfl
  rw [this]; rw [hP] at hP2; exact wid (by omega) (by omega)
 by_cases hp : p < (P : Int)
 rotate_left
 ·have hr := trErr (hbad fun h => hp (htr.1 h)) (by omega)
  try (conv => whnf)
  repeat' (first
   | (refine SeqJ.thru ?_; conv => whnf)
   | (refine br_dec (fun _ => ?_) (fun _ => ?_) <;> first | (exfalso; omega) | contradiction | conv => whnf)
   | (refine br_not ?_; conv => whnf)
   | (refine br_bne (fun _ => ?_) (fun _ => ?_) <;> first | (exfalso; omega) | contradiction | conv => whnf)
   | (refine br_beq (fun _ => ?_) (fun _ => ?_) <;> first | (exfalso; omega) | contradiction | conv => whnf))
  refine Hand.mk [] ?_
  try (conv => whnf)
  refine CallW.d (i_isActor' a) ?_
  try (conv => whnf)
  try (conv => whnf)
  repeat' (first
   | (refine Need.mk ?_ ?_; (focus (omega)); conv => whnf)
   | (refine Pick.mk ?_ ?_ ?_; rotate_left; (focus (first | with_reducible exact hsh | (refine wid ?_ ?_ <;> omega))); conv => whnf)
   | (refine br_dec (fun _ => ?_) (fun _ => ?_) <;> first | (exfalso; omega) | contradiction | conv => whnf)
   | (refine br_not ?_; conv => whnf)
   | (refine br_bne (fun _ => ?_) (fun _ => ?_) <;> first | (exfalso; omega) | contradiction | conv => whnf)
   | (refine br_beq (fun _ => ?_) (fun _ => ?_) <;> first | (exfalso; omega) | contradiction | conv => whnf))
  refine Out.mk true [] [] ?_
  try (conv => whnf)
  exact ⟨hr, rfl⟩
 have hc : trC l a k p = 0 := by rw [trC, if_pos h1, if_pos (htr.2 hp)]
 have hall := h1.good.all
 have hol := own_le l a
 have hll := h1.len
 have ct := i_treeOf (own l a) (by omega) (own_okA hall a)
 have hPk : p.toNat < 2 ^ (8 - k.toNat) := by rw [show 8 - k.toNat = K by omega, ← hP]; omega
 have hr := trGood (l := l) (a := a) (k := k) (p := p) (v := nodeN (own l a) k.toNat p.toNat) hc rfl
 have hfr : (rowF (own l a) 9)[k.toNat]? = some (frD (own l a) k.toNat) := rowF_get _ (by omega)
 have hfg : 0 ≤ p ∧ ((lvL (own l a) k.toNat (2 ^ (8 - k.toNat))).map inD)[p.toNat]? = some (inD (nodeN (own l a) k.toNat p.toNat : Int)) := by
  refine ⟨p0, ?_⟩
  rw [List.getElem?_map, List.getElem?_eq_getElem (by simpa using hPk), lvL_get _ _ _ hPk]; rfl
 generalize nodeN (own l a) k.toNat p.toNat = V at *
 have hbk : ((bookD (bookOf l)).set a.toNat (.sl ((own l a).map oD)))[a.toNat]? = some (.sl ((own l a).map oD)) := by
  rw [List.getElem?_set_self]
  rw [(bookOf_wf l).len]; have := ha.2; omega
 have hlb := le_bk l (a := a.toNat) (by have := ha.1; have := ha.2; omega) hall
 rw [show ((a.toNat : Nat) : Int) = a by have := ha.1; omega] at hlb
 try (conv => whnf)
 repeat' (first
  | (refine br_dec (fun _ => ?_) (fun _ => ?_) <;> first | (exfalso; omega) | contradiction | conv => whnf)
  | (refine br_not ?_; conv => whnf)
  | (refine br_bne (fun _ => ?_) (fun _ => ?_) <;> first | (exfalso; omega) | contradiction | conv => whnf)
  | (refine br_beq (fun _ => ?_) (fun _ => ?_) <;> first | (exfalso; omega) | contradiction | conv => whnf))
 refine SeqJ.thru ?_
 try (conv => whnf)
 repeat' (first
  | (refine br_dec (fun _ => ?_) (fun _ => ?_) <;> first | (exfalso; omega) | contradiction | conv => whnf)
  | (refine br_not ?_; conv => whnf)
  | (refine br_bne (fun _ => ?_) (fun _ => ?_) <;> first | (exfalso; omega) | contradiction | conv => whnf)
  | (refine br_beq (fun _ => ?_) (fun _ => ?_) <;> first | (exfalso; omega) | contradiction | conv => whnf))
 refine SeqJ.join (σ := Unit) (fun _ => mk [(10, .one (.ep (.v 8208) 120 0 0)), (1, vI .i64 a), (2, vI .i64 k), (3, vI .i64 p)] [(8208, .own 120 [(bookD (bookOf l)).set a.toNat (.sl ((own l a).map oD))])]) (fun _ => True) ?_ ?_
 ·try (conv => whnf)
  repeat' (first
   | (refine br_dec (fun _ => ?_) (fun _ => ?_) <;> first | (exfalso; omega) | contradiction | conv => whnf)
   | (refine br_not ?_; conv => whnf)
   | (refine br_bne (fun _ => ?_) (fun _ => ?_) <;> first | (exfalso; omega) | contradiction | conv => whnf)
   | (refine br_beq (fun _ => ?_) (fun _ => ?_) <;> first | (exfalso; omega) | contradiction | conv => whnf))
  refine Hand.mk [] ?_
  try (conv => whnf)
  refine CallW.d (i_isActor' a) ?_
  try (conv => whnf)
  try (conv => whnf)
  repeat' (first
   | (refine Need.mk ?_ ?_; (focus (omega)); conv => whnf)
   | (refine Pick.mk ?_ ?_ ?_; rotate_left; (focus (first | with_reducible exact hsh | (refine wid ?_ ?_ <;> omega))); conv => whnf)
   | (refine br_dec (fun _ => ?_) (fun _ => ?_) <;> first | (exfalso; omega) | contradiction | conv => whnf)
   | (refine br_not ?_; conv => whnf)
   | (refine br_bne (fun _ => ?_) (fun _ => ?_) <;> first | (exfalso; omega) | contradiction | conv => whnf)
   | (refine br_beq (fun _ => ?_) (fun _ => ?_) <;> first | (exfalso; omega) | contradiction | conv => whnf))
  refine Pick.mk () trivial (LeX.frz (LeX.of ?_) (hlb [(10, .one (.ep (.v 8208) 120 0 0)), (1, vI .i64 a), (2, vI .i64 k), (3, vI .i64 p)]) (LeX.of ?_))
  ·try (conv => whnf)
   repeat (refine Need.mk ?_ ?_; (focus (first | omega | (simp; done))); conv => whnf)
   trivial
  ·try (conv => whnf)
   repeat (refine Need.mk ?_ ?_; (focus (first | omega | (simp; done) | rfl)); conv => whnf)
   trivial
 ·rintro - -
  try (conv => whnf)
  repeat (first
   | (refine Need.mk ?_ ?_; (focus (omega)); conv => whnf)
   | (refine Pick.mk ?_ ?_ ?_; rotate_left; (focus (first | with_reducible exact hbk | ((show @Eq Nat (_ + Int.toNat _ * _) _); simp only [Int.toNat_natCast, Nat.zero_add, Nat.mul_one]; rfl) | ((show @Eq (Option _) _ _); simp only [List.getElem?_cons_zero, List.getElem?_cons_succ]; rfl))); conv => whnf))
  refine Hand.mk [] ?_
  try (conv => whnf)
  refine CallW.k (ct) ?_
  try (conv => whnf)
  repeat (first
   | (refine Need.mk ?_ ?_; (focus (omega)); conv => whnf)
   | (refine Pick.mk ?_ ?_ ?_; rotate_left; (focus (first | with_reducible exact hfr | with_reducible exact hfg | ((show @Eq Nat (_ + Int.toNat _ * _) _); simp only [Int.toNat_natCast, Nat.zero_add, Nat.mul_one]; rfl) | ((show @Eq (Option _) _ _); simp only [List.getElem?_cons_zero, List.getElem?_cons_succ]; rfl))); conv => whnf))
  refine Out.mk true [] [] ?_
  try (conv => whnf)
  exact ⟨hr, rfl⟩
end Go.Proofs.Ytpdjehnlejjfmaa.D
/- The marks that a law makes in a log. -/
namespace Go.Proofs.Ytpdjehnlejjfmaa.D
open Go.RowKit
set_option maxRecDepth 100000
set_option maxHeartbeats 4000000
set_option linter.unusedVariables false
set_option linter.unusedSimpArgs false

end Go.Proofs.Ytpdjehnlejjfmaa.D
/- The law FnExactTreeSum, as a call that gives back true. -/
namespace Go.Proofs.Ytpdjehnlejjfmaa.D
open Go.RowKit
set_option maxRecDepth 100000
set_option maxHeartbeats 40000000
set_option linter.unusedVariables false
set_option linter.unusedSimpArgs false

theorem law_TreeSum (l : List OpV) (a k p : Int) (hl : l.length ≤ 9223372036854775807) (hd : ∀ o ∈ l, o.deps.length ≤ 9223372036854775807 ∧ o.key.length ≤ 9223372036854775807 ∧ o.text.length ≤ 9223372036854775807) :
  CallD Try.prog id_laws_FnExactTreeSum [vL l, vI .i64 a, vI .i64 k, vI .i64 p] [] (vB true) [] := by
 refine F_laws_FnExactTreeSum ?_
 try (conv => whnf)
 refine Hand.mk [] ?_
 try (conv => whnf)
 refine CallW.d (l_szOpS l 1048576 hl hd (by omega) (by omega)) ?_
 try (conv => whnf)
 repeat (refine SeqJ.thru ?_; conv => whnf)
 by_cases hz : (1048576 : Int) < (l.length + szOps l : Nat)
 ·rw [show szL 1048576 (l.length + szOps l) = -1 from if_pos hz]
  try (conv => whnf)
  repeat' (first
   | (refine br_dec (fun _ => ?_) (fun _ => ?_) <;> first | (exfalso; omega) | contradiction | conv => whnf)
   | (refine br_not ?_; conv => whnf)
   | (refine br_bne (fun _ => ?_) (fun _ => ?_) <;> first | (exfalso; omega) | contradiction | conv => whnf)
   | (refine br_beq (fun _ => ?_) (fun _ => ?_) <;> first | (exfalso; omega) | contradiction | conv => whnf))
  refine Out.mk true [] [] ?_
  try (conv => whnf)
  exact ⟨rfl, rfl⟩
 rw [show szL 1048576 (l.length + szOps l) = 1048576 - (l.length + szOps l : Nat) from if_neg hz]
 have hm : ∀ o ∈ l, o.deps.length + o.key.length + o.text.length ≤ 1048576 := fun o ho => by have := szOps_mem ho; omega
 have c1 := s_TreeSum l a k p fun o ho => by have := hm o ho; omega
 have c2 := i_TreeSum l a k p fun o ho => by have := hm o ho; omega
 simp only [trR] at c1 c2
 generalize trV l a k p = V at c1 c2
 generalize trC l a k p = C at c1 c2
 have t := l_toOpS l (by omega) fun o ho => by have := hm o ho; omega
 try (conv => whnf)
 repeat' (first
  | (refine br_dec (fun _ => ?_) (fun _ => ?_) <;> first | (exfalso; omega) | contradiction | conv => whnf)
  | (refine br_not ?_; conv => whnf)
  | (refine br_bne (fun _ => ?_) (fun _ => ?_) <;> first | (exfalso; omega) | contradiction | conv => whnf)
  | (refine br_beq (fun _ => ?_) (fun _ => ?_) <;> first | (exfalso; omega) | contradiction | conv => whnf))
 refine Hand.mk [] ?_
 try (conv => whnf)
 refine CallW.d (t) ?_
 try (conv => whnf)
 refine Hand.mk [] ?_
 try (conv => whnf)
 repeat (refine Pick.mk ?_ ?_ ?_; rotate_left; (focus (exact sl_ops _ rfl)); conv => whnf)
 refine CallW.d (c1) ?_
 try (conv => whnf)
 refine Hand.mk [] ?_
 try (conv => whnf)
 refine CallW.d (t) ?_
 try (conv => whnf)
 refine Hand.mk [] ?_
 try (conv => whnf)
 repeat (refine Pick.mk ?_ ?_ ?_; rotate_left; (focus (exact sl_ops _ rfl)); conv => whnf)
 refine CallW.d (c2) ?_
 try (conv => whnf)
 repeat (refine SeqJ.thru ?_; conv => whnf)
 try (conv => whnf)
 repeat' (first
  | (refine SeqJ.thru ?_; conv => whnf)
  | (refine br_dec (fun _ => ?_) (fun _ => ?_) <;> first | (exfalso; omega) | contradiction | conv => whnf)
  | (refine br_not ?_; conv => whnf)
  | (refine br_bne (fun _ => ?_) (fun _ => ?_) <;> first | (exfalso; omega) | contradiction | conv => whnf)
  | (refine br_beq (fun _ => ?_) (fun _ => ?_) <;> first | (exfalso; omega) | contradiction | conv => whnf))
 refine Hand.mk [] ?_
 try (conv => whnf)
 refine CallW.d (t) ?_
 try (conv => whnf)
 refine Hand.mk [] ?_
 try (conv => whnf)
 repeat (refine Pick.mk ?_ ?_ ?_; rotate_left; (focus (exact sl_ops _ rfl)); conv => whnf)
 refine CallW.d (l_eqOpS l (by omega) (fun o ho => by have := hm o ho; omega)) ?_
 try (conv => whnf)
 try (conv => whnf)
 repeat' (first
  | (refine br_dec (fun _ => ?_) (fun _ => ?_) <;> first | (exfalso; omega) | contradiction | conv => whnf)
  | (refine br_not ?_; conv => whnf)
  | (refine br_bne (fun _ => ?_) (fun _ => ?_) <;> first | (exfalso; omega) | contradiction | conv => whnf)
  | (refine br_beq (fun _ => ?_) (fun _ => ?_) <;> first | (exfalso; omega) | contradiction | conv => whnf))
 refine Out.mk true [] [] ?_
 try (conv => whnf)
 exact ⟨rfl, rfl⟩
end Go.Proofs.Ytpdjehnlejjfmaa.D
/- From a call's contract to the given row: the arguments as they read. -/
namespace Go.Proofs.Ytpdjehnlejjfmaa.D
open Go.ChangeShapes Go.WideShapes Go.ChangeAt Go.RowKit
open Go.ChangeMaps (open_string)
set_option linter.unusedVariables false
set_option linter.unusedSimpArgs false

def cellsV (w : World) : View := fun x => w.cell? x
theorem satL0 (w : World) : SatL w Rows0.none (cellsV w) (fun _ => none) (Lof []) w :=
 ⟨Keep.refl _ _, fun _ _ h => h, fun x v p b n _ h => by simp at h, fun p q b n n' h => by simp at h, fun p b n h => by simp at h, fun p r h => by simp [Lof] at h, ⟨by simp [Rows0.none], fun q x h => by simp [Rows0.none] at h⟩, fun _ _ => ⟨rfl, fun _ _ => rfl⟩,
  fun p r h => by simp [Lof] at h, fun t => .one (.dead _), rfl, rfl⟩
theorem enter_law {P : Program} {f : FuncId} {args : List SV} {w : World} {vs : List Value} (h : CallD P f args [] (vB true) []) (ha : Args (cellsV w) (fun _ => none) args vs) :
  Calls P f vs.toArray w (fun e w' => e = .returned (.bool true) ∧ Below w.heap.size w w') := by
 refine (h.2 w Rows0.none _ _ vs rfl (satL0 w) ha).mono ?_
 rintro e w' ⟨v, V', bs', res, Lo, rfl, ⟨rfl, rfl⟩, -, -, -, hs, hv, -⟩
 refine ⟨?_, hs.keep.below⟩
 cases hv with
 |one h => cases h with
  | dv h => cases h; rfl
theorem args0 {V : View} {b : Loc} : Args V b [] [] := ⟨rfl, fun i sv v h => by simp at h⟩
theorem argsC {V : View} {b : Loc} {a : SV} {v : Value} {az : List SV} {vs : List Value} (h : VR V b a v) (t : Args V b az vs) : Args V b (a :: az) (v :: vs) :=
 ⟨by simp [t.len], fun i sv u h1 h2 => by
  cases i with
  | zero => simp at h1 h2; subst h1; subst h2; exact h
  | succ i => exact t.get i sv u (by simpa using h1) (by simpa using h2)⟩
section
variable {H : Type} {enc : TypeId × Value → H} {P : Program} {W : World} {base : Nat} {sp : Nat → Bool} {held : Bool}
theorem in_int {r : Reach} {b0 : Nat} {t : TypeId} {v : Value} {d : DataW H} {ps : List MemPlace} (ht : P.underlying t = some (.int .i64)) (hval : Value.okWide P W r b0 t v) (hd : DataW.Trod enc P W base sp held t v d ps) :
  ∃ n : Int, v = .int .i64 n ∧ -9223372036854775808 ≤ n ∧ n ≤ 9223372036854775807 := by
 obtain ⟨n, rfl, _, _, h⟩ := open_int ht hval hd
 simp [Lit.wf, IntKind.min, IntKind.max, IntKind.bits, IntKind.signed] at h
 exact ⟨n, rfl, by omega, by omega⟩
theorem vrI {k : IntKind} {n : Int} {V : View} {b : Loc} : VR V b (vI k n) (.int k n) := .one (.dv (.sc _ rfl))
end
end Go.Proofs.Ytpdjehnlejjfmaa.D
/- Arguments that are structures, and lists of anything: how they read. -/
namespace Go.Proofs.Ytpdjehnlejjfmaa.D
open Go.ChangeShapes Go.WideShapes Go.ChangeAt Go.RowKit
open Go.ChangeMaps (open_string)
set_option linter.unusedVariables false
set_option linter.unusedSimpArgs false

abbrev lenMax : Nat := 9223372036854775807
theorem RdL.append {V : View} {az : List Value} {bz : List Value} {da db : List DV} (h : RdL V az da) (k : RdL V bz db) : RdL V (az ++ bz) (da ++ db) := by
 induction h with
 | nil => exact k
 | cons h t ih => exact .cons h ih
theorem RdL.size {V : View} {vs : List Value} {ds : List DV} (h : RdL V vs ds) : vs.length = ds.length := by
 induction h with
 | nil => rfl
 | cons h t ih => simp [ih]
theorem RdL.getD {V : View} {vs : List Value} {ds : List DV} (h : RdL V vs ds) : ∀ (i : Nat) (h1 : i < vs.length) (h2 : i < ds.length), Rd V vs[i] ds[i] := by
 induction h with
 | nil => intro i h1; simp at h1
 | cons h t ih =>
  intro i h1 h2
  cases i with
  | zero => exact h
  | succ i => exact ih i (by simpa using h1) (by simpa using h2)
section
variable {H : Type} (enc : TypeId × Value → H) (P : Program) (W : World)
def Opens (t : TypeId) {α : Type} (e : α → List DV) (ok : α → Prop) : Prop :=
 ∀ fuel cs x, DataW.trod enc P W 0 (fun _ => true) true fuel t cs = some x → ∃ a, RdL (cellsV W) cs (e a) ∧ ok a
def OpensF (fs : List Field) (o m : Nat) {α : Type} (e : α → List DV) (ok : α → Prop) : Prop :=
 ∀ (fuel : Nat) (cs : List Value), o + m ≤ cs.length → (∀ f ∈ fs, ∃ x, DataW.trod enc P W 0 (fun _ => true) true fuel f.type ((cs.drop f.offset).take (P.cellsOf f.type)) = some x) → ∃ a, RdL (cellsV W) ((cs.drop o).take m) (e a) ∧ ok a
variable {enc P W}
theorem Opens.to {t : TypeId} {α β : Type} {e : α → List DV} {ok : α → Prop} {e2 : β → List DV} {ok2 : β → Prop} (h : Opens enc P W t e ok) (f : α → β) (he : ∀ a, e a = e2 (f a)) (hk : ∀ a, ok a → ok2 (f a)) : Opens enc P W t e2 ok2 := by
 intro fuel cs x hx
 obtain ⟨a, h1, h2⟩ := h fuel cs x hx
 exact ⟨f a, he a ▸ h1, hk a h2⟩
theorem opens_int {t : TypeId} (ht : P.underlying t = some (.int .i64)) : Opens enc P W t inD fun n => -9223372036854775808 ≤ n ∧ n ≤ 9223372036854775807 := by
 intro fuel cs x hx
 obtain ⟨n, rfl, rfl, h⟩ := DataW.trod_int ht hx
 simp [Lit.wf, IntKind.min, IntKind.max, IntKind.bits, IntKind.signed] at h
 exact ⟨n, .cons (.sc _ rfl) .nil, by omega, by omega⟩
theorem opens_string {t : TypeId} (ht : P.underlying t = some .string) : Opens enc P W t (fun l : List UInt8 => [.sc (.string (bs l))]) fun l => l.length ≤ lenMax := by
 intro fuel cs x hx
 obtain ⟨s, rfl, rfl, h⟩ := DataW.trod_string ht hx
 refine ⟨s.data.toList, .cons ?_ .nil, by simpa [maxLen, lenMax] using h⟩
 have : bs s.data.toList = s := by cases s; rfl
 rw [this]
 exact .sc _ rfl
theorem opens_slice {t u : TypeId} {α : Type} {e : α → List DV} {ok : α → Prop} (ht : P.underlying t = some (.slice u)) (hk : 0 < P.cellsOf u) (h : Opens enc P W u e ok) :
  Opens enc P W t (fun l : List α => [.sl (l.map e)]) fun l => l.length ≤ lenMax ∧ ∀ a ∈ l, ok a := by
 intro fuel cs x hx
 rcases DataW.trod_slice ht hx with ⟨rfl, rfl⟩ | ⟨a, len, cap, elems, rest, n, rfl, rfl, rfl, -, hlc, hcm, hel, he, -, -⟩
 ·exact ⟨[], .cons (.nil _ _) .nil, by simp, by simp⟩
 ·rcases Nat.eq_zero_or_pos len with rfl | hlen
  ·exact ⟨[], .cons (.nil _ _) .nil, by simp, by simp⟩
  have hall : ∀ i, i < len → ∃ us, us.length = P.cellsOf u ∧ (∀ j (hj : j < us.length), W.cell? ((a.add (i * P.cellsOf u)).add j) = some us[j]) ∧ ∃ b, RdL (cellsV W) us (e b) ∧ ok b := by
   intro i hi
   have h1 := he i hi
   rw [List.getElem?_eq_getElem (by omega), Option.bind_eq_some_iff] at h1
   obtain ⟨us, h2, h3⟩ := h1
   unfold World.cells? at h2
   rw [if_pos (Nat.zero_le _)] at h2
   have h4 := mapM_some_length h2
   simp at h4
   refine ⟨us, h4, fun j hj => ?_, h _ _ _ h3⟩
   have := mapM_some_get h2 j j (by rw [List.getElem?_range (by omega)])
   rw [this, List.getElem?_eq_getElem]
  have hs : a.spot = none := by
   obtain ⟨us, h1, h2, -⟩ := hall 0 hlen
   have h3 := h2 0 (by omega)
   have h4 : (a.add (0 * P.cellsOf u)).add 0 = a := by simp [Addr.add]
   rw [h4] at h3
   simp only [World.cell?] at h3
   split at h3
   ·split at h3
    ·simp at h3
    ·rename_i h; simpa using h
   ·simp at h3
  have hall2 : ∀ i, i < len → ∃ b, ∃ us, us.length = P.cellsOf u ∧ (∀ j (hj : j < us.length), W.cell? ⟨a.block, a.off + i * P.cellsOf u + j, none⟩ = some us[j]) ∧ RdL (cellsV W) us (e b) ∧ ok b := by
   intro i hi
   obtain ⟨us, h1, h2, b, h3, h4⟩ := hall i hi
   refine ⟨b, us, h1, fun j hj => ?_, h3, h4⟩
   rw [← h2 j hj]
   congr 1
   cases a with
   | mk b o s =>
    simp only at hs
    subst hs
    unfold Addr.add
    split
    ·rename_i h5
     split
     ·rename_i h6
      simp [h5, h6]
     ·simp [h5]
    ·split
     ·rename_i h6
      simp [h6]
     ·rfl
  have hf : ∃ (F : Nat → α) (U : Nat → List Value), ∀ i, i < len → (U i).length = P.cellsOf u ∧ (∀ j (hj : j < (U i).length), W.cell? ⟨a.block, a.off + i * P.cellsOf u + j, none⟩ = some (U i)[j]) ∧ RdL (cellsV W) (U i) (e (F i)) ∧ ok (F i) := by
   obtain ⟨b0, -⟩ := hall2 0 hlen
   exact ⟨fun i => if hi : i < len then (hall2 i hi).choose else b0, fun i => if hi : i < len then (hall2 i hi).choose_spec.choose else [], fun i hi => by simp only [dif_pos hi]; exact (hall2 i hi).choose_spec.choose_spec⟩
  obtain ⟨F, U, hFU⟩ := hf
  refine ⟨(List.range len).map F, .cons ?_ .nil, by simp [lenMax]; simp [maxLen] at hcm; omega, fun x hx => by simp at hx; obtain ⟨i, hi, rfl⟩ := hx; exact (hFU i hi).2.2.2⟩
  have := Rd.sl (V := cellsV W) a.block a.off (P.cellsOf u) cap (((List.range len).map F).map e) (fun i j => (U i).getD j (.bool true)) (by simpa using hlc) (fun i hi => by
    simp at hi
    have := hFU i hi
    simp [← this.2.2.1.size, this.1]) (fun i j hi hj => by
    simp at hi
    obtain ⟨h1, h2, -⟩ := hFU i hi
    have := h2 j (by omega)
    show W.cell? _ = _
    rw [this, List.getD_eq_getElem?_getD, List.getElem?_eq_getElem (by omega)]; rfl) (fun i j hi hj => by
    simp at hi
    obtain ⟨h1, h2, h3, -⟩ := hFU i hi
    simp at hj
    have h4 := h3.size
    have := h3.getD j (by omega) hj
    simp only [List.getElem_map, List.getElem_range]
    rw [List.getD_eq_getElem?_getD, List.getElem?_eq_getElem (by omega)]
    exact this)
  simp only [List.length_map, List.length_range] at this
  have ha : (⟨a.block, a.off, none⟩ : Addr) = a := by cases a; simp_all
  rw [ha] at this
  exact this
theorem opensF_nil {o : Nat} : OpensF enc P W [] o 0 (fun _ : Unit => []) fun _ => True := by
 intro fuel cs _ _
 exact ⟨(), by simpa using .nil, trivial⟩
theorem opensF_cons {f : Field} {fs : List Field} {o k m : Nat} {α β : Type} {ea : α → List DV} {oka : α → Prop} {eb : β → List DV} {okb : β → Prop} (ho : f.offset = o) (hc : P.cellsOf f.type = k)
  (ha : Opens enc P W f.type ea oka) (hb : OpensF enc P W fs (o + k) m eb okb) : OpensF enc P W (f :: fs) o (k + m) (fun x : α × β => ea x.1 ++ eb x.2) fun x => oka x.1 ∧ okb x.2 := by
 intro fuel cs hl hx
 obtain ⟨x, h1⟩ := hx f (by simp)
 obtain ⟨a, h2, h3⟩ := ha _ _ _ h1
 obtain ⟨b, h4, h5⟩ := hb fuel cs (by omega) fun g hg => hx g (by simp [hg])
 refine ⟨(a, b), ?_, h3, h5⟩
 rw [ho, hc] at h2
 have := h2.append h4
 have e : (cs.drop o).take (k + m) = (cs.drop o).take k ++ (cs.drop (o + k)).take m := by
  rw [List.take_add, List.drop_drop]
 rw [e]
 exact this
theorem opens_struct {t : TypeId} {fs : Array Field} {m : Nat} {α : Type} {e : α → List DV} {ok : α → Prop} (ht : P.underlying t = some (.struct fs)) (hm : P.cellsOf t = m) (h : OpensF enc P W fs.toList 0 m e ok) : Opens enc P W t e ok := by
 intro fuel cs x hx
 obtain ⟨xs, n, rfl, rfl, hl, hxs, hg⟩ := DataW.trod_struct ht hx
 obtain ⟨a, h1, h2⟩ := h n cs (by omega) fun f hf => by
  obtain ⟨i, hi, rfl⟩ := List.getElem_of_mem hf
  have := hg i fs[i] (by simp at hi; simp [hi])
  refine ⟨xs[i]'(by simp at hi; omega), ?_⟩
  simp at hi ⊢
  rw [this, List.getElem?_eq_getElem]
 refine ⟨a, ?_, h2⟩
 simp only [List.drop_zero] at h1
 rwa [List.take_of_length_le (by omega)] at h1
theorem arg_one {t : TypeId} {α : Type} {e : α → DV} {ok : α → Prop} (h : Opens enc P W t (fun a => [e a]) ok) {v : Value} {d : DataW H} {ps : List MemPlace} (hv : v.cells = #[v])
  (hd : DataW.Trod enc P W 0 (fun _ => true) true t v d ps) : ∃ a, VR (cellsV W) (fun _ => none) (.one (.dv (e a))) v ∧ ok a := by
 obtain ⟨fuel, hf⟩ := hd
 obtain ⟨a, h1, h2⟩ := h _ _ _ hf
 rw [hv] at h1
 refine ⟨a, .one (.dv ?_), h2⟩
 cases h1 with
 | cons h1 _ => exact h1
theorem arg_slice {t u : TypeId} {α : Type} {e : α → List DV} {ok : α → Prop} (ht : P.underlying t = some (.slice u)) (hk : 0 < P.cellsOf u) (h : Opens enc P W u e ok) {r : Reach} {b0 : Nat} {v : Value} {d : DataW H} {ps : List MemPlace}
  (hval : Value.okWide P W r b0 t v) (hd : DataW.Trod enc P W 0 (fun _ => true) true t v d ps) : ∃ l : List α, VR (cellsV W) (fun _ => none) (.one (.dv (.sl (l.map e)))) v ∧ l.length ≤ lenMax ∧ ∀ a ∈ l, ok a := by
 obtain ⟨a, n, c, rfl⟩ := okWide_slice ht hval
 exact arg_one (e := fun l : List α => .sl (l.map e)) (opens_slice ht hk h) rfl hd
end
end Go.Proofs.Ytpdjehnlejjfmaa.D
/- Operations as arguments. -/
namespace Go.Proofs.Ytpdjehnlejjfmaa.D
open Go.RowKit
set_option linter.unusedVariables false

abbrev OpT := Int × Int × Int × (List Int × Unit) × Int × Int × Int × Int × (Int × Int × Unit) × List UInt8 × List UInt8 × Unit
def opOf (x : OpT) : OpV := ⟨x.1, x.2.1, x.2.2.1, x.2.2.2.1.1, x.2.2.2.2.1, x.2.2.2.2.2.1, x.2.2.2.2.2.2.1, x.2.2.2.2.2.2.2.1, x.2.2.2.2.2.2.2.2.1.1, x.2.2.2.2.2.2.2.2.1.2.1, x.2.2.2.2.2.2.2.2.2.1, x.2.2.2.2.2.2.2.2.2.2.1⟩
abbrev opIn (o : OpV) : Prop := o.deps.length ≤ 9223372036854775807 ∧ o.key.length ≤ 9223372036854775807 ∧ o.text.length ≤ 9223372036854775807
end Go.Proofs.Ytpdjehnlejjfmaa.D
