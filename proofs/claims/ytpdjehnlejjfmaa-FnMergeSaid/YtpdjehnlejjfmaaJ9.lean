/- Logs as they are drawn. -/
import Derived.Test.YtpdjehnlejjfmaaJ8
set_option linter.unusedVariables false
set_option linter.unusedSimpArgs false
namespace Go.Proofs.Ytpdjehnlejjfmaa.D
open Go.RowKit
set_option maxRecDepth 100000
set_option maxHeartbeats 4000000
set_option linter.unusedVariables false
set_option linter.unusedSimpArgs false
structure OpW (t : Int) (o : OpV) : Prop where
 act : actOk o.actor
 time : -2 ^ 50 ≤ o.time ∧ o.time ≤ t
 deps : o.deps.length = 16
 key : o.key.length ≤ 200
 text : o.text.length ≤ 200
theorem OpW.mono {t u : Int} {o : OpV} (h : OpW t o) (hu : t ≤ u) : OpW u o := ⟨h.act, ⟨h.time.1, Int.le_trans h.time.2 hu⟩, h.deps, h.key, h.text⟩
def maxT (l : List OpV) (t : Int) : Int := l.foldl (fun m o => if o.time > m then o.time else m) t
theorem maxT_next {l : List OpV} {i : Nat} (h : i < l.length) (t : Int) : maxT (l.take (i + 1)) t = if l[i].time > maxT (l.take i) t then l[i].time else maxT (l.take i) t := by
 rw [List.take_succ_eq_append_getElem h, maxT, List.foldl_append]; rfl
theorem maxT_le {l : List OpV} {t u : Int} (h : ∀ o ∈ l, o.time ≤ u) (ht : t ≤ u) : maxT l t ≤ u ∧ t ≤ maxT l t := by
 unfold maxT
 induction l generalizing t with
 | nil => exact ⟨ht, Int.le_refl _⟩
 | cons o l ih =>
  simp only [List.foldl_cons]
  have h1 := h o (by simp)
  split
  ·have := ih (fun o ho => h o (by simp [ho])) h1; omega
  ·exact ih (fun o ho => h o (by simp [ho])) ht
def makeO (l : List OpV) (a : Int) (o : OpV) : OpV := { o with actor := a, seq := (own l a).length + 1, time := maxT l o.time + 1, deps := cnts l }
abbrev vOz (o : OpV) : SV := .agg [cI o.actor, cI o.seq, cI o.time, .nil, cI o.kind, cI o.obj, cI o.n, cI o.undo, cI o.atT, cI o.atA, cS (bs o.key), cS (bs o.text)]
theorem s_l08Make (l : List OpV) (a : Int) (o : OpV) (hl : l.length ≤ 2 ^ 20) (hw : ∀ o ∈ l, OpW (2 ^ 50) o) (ha : actOk a) (ht : -2 ^ 50 ≤ o.time ∧ o.time ≤ 2 ^ 50) :
  CallN Try.prog id_spec_l08Make [vL l, vI .i64 a, vOz o] [] [] (vO (makeO l a o)) [] := by
 refine F_spec_l08Make ?_
 obtain ⟨a0, a1⟩ := ha
 have hcn := cnts_get l (a := a.toNat) (by omega)
 rw [show ((a.toNat : Nat) : Int) = a by omega] at hcn
 have hcl := cnts_length l
 have hol := own_le l a
 try (conv => whnf)
 have c1 := s_l08Counts l (fun o ho => (hw o ho).act) (by omega)
 obtain ⟨vs, hvs⟩ : ∃ vs, vs = cnts l := ⟨_, rfl⟩
 simp only [← hvs] at c1 hcn hcl
 refine Hand.mk [] ?_
 try (conv => whnf)
 refine CallW.d (c1) ?_
 try (conv => whnf)
 repeat (first
  | (refine Need.mk ?_ ?_; (focus (omega)); conv => whnf)
  | (refine Pick.mk ?_ ?_ ?_; rotate_left; (focus (first | (with_reducible refine get_mapI _ _ _ ?_ ?_ <;> first | omega | (simp; omega)) | (refine wid ?_ ?_ <;> omega))); conv => whnf))
 refine LoopE.mk (fun i : Nat => mk [(0, vL l), (5, .one (.ptr 4096 0)), (6, .one (.ptr 4112 0)), (8, vI .i64 i)]
  [(4096, .box [cI a, cI ((own l a).length + 1), cI (maxT (l.take i) o.time), .os (.v 8208) 1 0 16, cI o.kind, cI o.obj, cI o.n, cI o.undo, cI o.atT, cI o.atA, cS (bs o.key), cS (bs o.text)]), (4112, .box (opC ⟨0, 0, 0, [], 0, 0, 0, 0, 0, 0, [], []⟩)), (8208, .own 1 (vs.map inD))]) (fun i => i ≤ l.length) (fun i => l.length - i) 0 (by omega) (LeX.of ?_) ?_
 ·try (conv => whnf)
  repeat (refine Need.mk ?_ ?_; (focus (first | omega | (simp; done) | rfl)); conv => whnf)
  trivial
 ·intro i hi
  have hmt : ∀ i, -2 ^ 50 ≤ maxT (l.take i) o.time ∧ maxT (l.take i) o.time ≤ 2 ^ 50 := fun i => by
   have := maxT_le (l := l.take i) (t := o.time) (u := 2 ^ 50) (fun x hx => (hw x (List.mem_of_mem_take hx)).time.2) ht.2
   omega
  have hmi := hmt i
  by_cases hlt : i < l.length
  ·have hti := (hw _ (List.getElem_mem hlt)).time
   have hnx := maxT_next hlt o.time
   try (conv => whnf)
   repeat' (first
    | (refine Pick.mk ?_ ?_ ?_; rotate_left; (focus (first | exact List.length_map _ | (refine wid ?_ ?_ <;> omega) | (refine pick_nat _ _ _ ?_; omega))); conv => whnf)
    | (refine SeqJ.thru ?_; conv => whnf)
    | (refine br_dec (fun _ => ?_) (fun _ => ?_) <;> first | (exfalso; omega) | contradiction | conv => whnf)
    | (refine br_not ?_; conv => whnf)
    | (refine br_bne (fun _ => ?_) (fun _ => ?_) <;> first | (exfalso; omega) | contradiction | conv => whnf)
    | (refine br_beq (fun _ => ?_) (fun _ => ?_) <;> first | (exfalso; omega) | contradiction | conv => whnf))
   refine Pick.mk (i + 1) (by constructor <;> first | omega | (simp only []; omega)) (LeX.of ?_)
   try (conv => whnf)
   repeat (refine Need.mk ?_ ?_; (focus (first | omega | (simp; done))); conv => whnf)
   trivial
  ·try (conv => whnf)
   repeat' (first
    | (refine Pick.mk ?_ ?_ ?_; rotate_left; (focus (first | exact List.length_map _ | (refine wid ?_ ?_ <;> omega))); conv => whnf)
    | (refine SeqJ.thru ?_; conv => whnf)
    | (refine br_dec (fun _ => ?_) (fun _ => ?_) <;> first | (exfalso; omega) | contradiction | conv => whnf)
    | (refine br_not ?_; conv => whnf)
    | (refine br_bne (fun _ => ?_) (fun _ => ?_) <;> first | (exfalso; omega) | contradiction | conv => whnf)
    | (refine br_beq (fun _ => ?_) (fun _ => ?_) <;> first | (exfalso; omega) | contradiction | conv => whnf))
   obtain rfl : i = l.length := by omega
   rw [List.take_length] at hmi
   refine Out.mk true [] [] ?_
   try (conv => whnf)
   repeat (refine Pick.mk ?_ ?_ ?_; rotate_left; (focus ((refine SlF.self _ _ ?_ ?_; (first | rfl | omega | (simp; done) | (simp; omega)); (exact fun _ => rfl)))); conv => whnf)
   exact ⟨by rw [List.take_length, hvs]; rfl, rfl⟩
theorem pickJ {es : List (List DV)} {n : Nat} {X : List DV → Prop} (p : Int → Bool) (hk : es.all (isI p) = true) (hn : n < es.length) (h : ∀ x : Int, p x = true → es[n]? = some (inD x) → X (inD x)) : Pick (fun c => es[n]? = some c) X := by
 have h1 := List.all_eq_true.1 hk es[n] (List.getElem_mem _)
 have h2 : es[n]? = some es[n] := List.getElem?_eq_getElem hn
 unfold isI at h1
 split at h1
 ·rename_i x he
  exact ⟨_, h2.trans (by rw [he]), h x h1 (h2.trans (by rw [he]))⟩
 ·simp at h1
theorem pickV {es : List (List DV)} {n : Nat} {X : List DV → Prop} (k : Nat) (hk : es.all (isT k) = true) (hn : n < es.length) (h : ∀ t : List UInt8, t.length ≤ k → es[n]? = some (stD (bs t)) → X (stD (bs t))) : Pick (fun c => es[n]? = some c) X := by
 have h1 := List.all_eq_true.1 hk es[n] (List.getElem_mem _)
 have h2 : es[n]? = some es[n] := List.getElem?_eq_getElem hn
 unfold isT at h1
 split at h1
 ·rename_i s he
  obtain ⟨t, rfl⟩ := bs_all s
  exact ⟨_, h2.trans (by rw [he]), h t (by simpa using Nat.le_of_ble_eq_true h1) (h2.trans (by rw [he]))⟩
 ·simp at h1
section
variable {code : List UInt8} {a s b : Int}
theorem s_stamp (hS : Src code a s b) (hb : b ≤ 2 ^ 58) :
  CallM Try.prog id_spec_l01Src_stamp [.one (.ptr 0 0)] [srcR code a s] [] false (Draws code (b + 6) fun r Lo => ∃ t a, Lo = [] ∧ r = vSt t a ∧ 1 ≤ t ∧ t ≤ 12 ∧ 0 ≤ a ∧ a < 4) := by
 refine F_spec_l01Src_stamp ?_
 try (conv => whnf)
 refine Hand.mk [] ?_
 try (conv => whnf)
 refine CallW.n (s_next hS (by omega) 12 (by omega)) ?_
 rintro _ _ ⟨a1, s1, _, rfl, hS1, v1, rfl, rfl, hv1⟩
 try (conv => whnf)
 repeat (refine Pick.mk ?_ ?_ ?_; rotate_left; (focus ((refine wid ?_ ?_ <;> omega))); conv => whnf)
 refine Hand.mk [] ?_
 try (conv => whnf)
 refine CallW.n (s_next hS1 (by omega) 4 (by omega)) ?_
 rintro _ _ ⟨a2, s2, _, rfl, hS2, v2, rfl, rfl, hv2⟩
 try (conv => whnf)
 refine Out.mk false [0, 1, 2, 3, 4] [] ?_
 try (conv => whnf)
 exact ⟨_, _, [], rfl, hS2.mono (by omega), _, _, rfl, rfl, by omega, by omega, by omega, by omega⟩
theorem s_oddStamp (hS : Src code a s b) (hb : b ≤ 2 ^ 57) :
  CallM Try.prog id_spec_l01Src_oddStamp [.one (.ptr 0 0)] [srcR code a s] [] false (Draws code (b + 20) fun r Lo => ∃ t a, Lo = [] ∧ r = vSt t a) := by
 refine F_spec_l01Src_oddStamp ?_
 try (conv => whnf)
 refine Hand.mk [] ?_
 try (conv => whnf)
 refine CallW.n (s_next hS (by omega) 10 (by omega)) ?_
 rintro _ _ ⟨a1, s1, _, rfl, hS1, v1, rfl, rfl, hv1⟩
 try (conv => whnf)
 try (conv => whnf)
 repeat' (first
  | (refine SeqJ.thru ?_; conv => whnf)
  | (refine br_dec (fun _ => ?_) (fun _ => ?_) <;> first | (exfalso; omega) | contradiction | conv => whnf)
  | (refine br_not ?_; conv => whnf)
  | (refine br_bne (fun _ => ?_) (fun _ => ?_) <;> first | (exfalso; omega) | contradiction | conv => whnf)
  | (refine br_beq (fun _ => ?_) (fun _ => ?_) <;> first | (exfalso; omega) | contradiction | conv => whnf))
 ·refine Need.mk ?_ ?_
  ·try (conv => whnf)
   repeat (first
    | (refine Need.mk ?_ ?_; (focus (((conv => whnf); (repeat (first | (refine Need.mk (by first | rfl | omega | (simp; done)) ?_; conv => whnf) | (refine Pick.mk ?_ ?_ ?_; rotate_left; (focus (first | with_reducible exact xor_u8 _ _ | (with_reducible refine xor_i64 ?_ ?_; all_goals omega) | (with_reducible refine xor_u32 ?_ ?_; all_goals omega) | exact sl_ops _ rfl | assumption | with_reducible exact set_byN _ _ _ _ | with_reducible exact set_byI _ _ _ _ | with_reducible exact set_inN _ _ _ _ | with_reducible exact set_inI _ _ _ _ | with_reducible exact set_stN _ _ _ _ | with_reducible exact set_tsN _ _ _ _ | with_reducible exact set_tsI _ _ _ _ | with_reducible exact set_boN _ _ _ _ | with_reducible exact set_boI _ _ _ _ | (with_reducible refine get_mapN _ _ _ ?_; first | omega | (simp; omega)) | (with_reducible refine get_mapI _ _ _ ?_ ?_ <;> first | omega | (simp; omega)) | exact bs_beq _ _ | exact bs_less _ _ | exact bs_leq _ _ | with_reducible exact bs_app _ _ | (refine bs_get _ _ ?_; omega) | (refine bs_int _ _ ?_ ?_ <;> omega) | with_reducible exact sl_map0 _ _ _ | with_reducible exact sl_mapN _ _ _ | with_reducible exact sl_map _ _ _ _ | exact bs_extract0 _ _ | exact bs_extractN _ _ | exact bs_extract _ _ _ | (refine bnd_id ?_; omega) | (refine bnd_sub ?_ ?_ <;> omega) | (refine bnd_add ?_; omega) | (refine bnd_subN ?_ ?_ <;> omega) | (refine bnd_int ?_ ?_ <;> omega) | ((show @Eq Nat (_ + Int.toNat _ * _) _); simp only [Int.toNat_natCast, Nat.zero_add, Nat.mul_one]; rfl) | ((show @Eq (List _) (List.set [_] _ _) _); simp only [List.set_cons_zero]; rfl) | exact List.length_map _ | exact size_bs _ | (simp only [List.length_map, List.length_append, List.length_cons, List.length_nil, List.length_replicate, Nat.zero_add]; rfl) | with_reducible exact List.nil_append _ | with_reducible exact map_app _ _ _ | exact map_snoc byD _ _ | exact map_snoc inD _ _ | exact map_snoc stD _ _ | exact map_snoc tsD _ _ | (simp only [chunks]; rfl) | (refine wid ?_ ?_ <;> omega) | exact wby _ | with_reducible exact wby32 _ | with_reducible exact wu32 _ | exact wby64 _ | exact shr8 _ | exact shr16 _ | exact shr24 _ | exact shr32 _ | (refine tmodn ?_; omega) | (refine wdiv ?_ ?_ ?_ <;> omega) | exact wbyte _ | exact natlit _ | exact rep_by _ | exact rep_in _ | exact rep_bo _ | exact rep_st _ | (refine pick_nat _ _ _ ?_; omega) | (refine pick_int _ _ _ ?_ ?_ <;> omega) | (refine SlOf.full ?_; first | (simp; done) | (simp; omega)) | (with_reducible refine SlOf.pre _ _ ?_; first | omega | (simp; omega)) | (refine SlF.self _ _ ?_ ?_; (first | rfl | omega | (simp; done) | (simp; omega)); (exact fun _ => rfl)) | (refine SlF.pre _ _ ?_ ?_; (first | omega | (simp; omega)); (exact fun _ => rfl)) | (refine SlF.same ?_ ?_; (first | rfl | omega | (simp; done) | (simp; omega)); (first | exact fz_self _ _ (fun _ => rfl) | exact fz_pl rfl | (refine Fz.append ?_ ?_ <;> first | exact fz_self _ _ (fun _ => rfl) | exact fz_pl rfl) | (refine Fz.append (Fz.append ?_ ?_) ?_ <;> first | exact fz_self _ _ (fun _ => rfl) | exact fz_pl rfl))) | (simp only [Int.toNat_natCast, Nat.zero_add, Nat.mul_one]; rfl) | ((show @Eq (Option CV) _ _); rfl) | ((fail_if_success (show @Eq (Option _) _ _)); rfl) | ((show @Eq (Option _) _ _); simp only [List.getElem?_cons_zero, List.getElem?_cons_succ]; done) | ((show @Eq (Option _) _ _); simp only [List.getElem?_cons_zero, List.getElem?_cons_succ]; rfl) | with_reducible rfl)); conv => whnf))); exact Done.mk trivial))); conv => whnf)
    | (refine Pick.mk ?_ ?_ ?_; rotate_left; (focus ((simp only [chunks]; rfl))); conv => whnf))
   refine Hand.mk [] ?_
   try (conv => whnf)
   refine CallW.n (s_next hS1 (by omega) 4 (by omega)) ?_
   rintro _ _ ⟨a2, s2, _, rfl, hS2, v2, rfl, rfl, hv2⟩
   try (conv => whnf)
   repeat (refine Need.mk ?_ ?_; (focus (first | omega | ((conv => whnf); (repeat (first | (refine Need.mk (by first | rfl | omega | (simp; done)) ?_; conv => whnf) | (refine Pick.mk ?_ ?_ ?_; rotate_left; (focus (first | with_reducible exact xor_u8 _ _ | (with_reducible refine xor_i64 ?_ ?_; all_goals omega) | (with_reducible refine xor_u32 ?_ ?_; all_goals omega) | exact sl_ops _ rfl | assumption | with_reducible exact set_byN _ _ _ _ | with_reducible exact set_byI _ _ _ _ | with_reducible exact set_inN _ _ _ _ | with_reducible exact set_inI _ _ _ _ | with_reducible exact set_stN _ _ _ _ | with_reducible exact set_tsN _ _ _ _ | with_reducible exact set_tsI _ _ _ _ | with_reducible exact set_boN _ _ _ _ | with_reducible exact set_boI _ _ _ _ | (with_reducible refine get_mapN _ _ _ ?_; first | omega | (simp; omega)) | (with_reducible refine get_mapI _ _ _ ?_ ?_ <;> first | omega | (simp; omega)) | exact bs_beq _ _ | exact bs_less _ _ | exact bs_leq _ _ | with_reducible exact bs_app _ _ | (refine bs_get _ _ ?_; omega) | (refine bs_int _ _ ?_ ?_ <;> omega) | with_reducible exact sl_map0 _ _ _ | with_reducible exact sl_mapN _ _ _ | with_reducible exact sl_map _ _ _ _ | exact bs_extract0 _ _ | exact bs_extractN _ _ | exact bs_extract _ _ _ | (refine bnd_id ?_; omega) | (refine bnd_sub ?_ ?_ <;> omega) | (refine bnd_add ?_; omega) | (refine bnd_subN ?_ ?_ <;> omega) | (refine bnd_int ?_ ?_ <;> omega) | ((show @Eq Nat (_ + Int.toNat _ * _) _); simp only [Int.toNat_natCast, Nat.zero_add, Nat.mul_one]; rfl) | ((show @Eq (List _) (List.set [_] _ _) _); simp only [List.set_cons_zero]; rfl) | exact List.length_map _ | exact size_bs _ | (simp only [List.length_map, List.length_append, List.length_cons, List.length_nil, List.length_replicate, Nat.zero_add]; rfl) | with_reducible exact List.nil_append _ | with_reducible exact map_app _ _ _ | exact map_snoc byD _ _ | exact map_snoc inD _ _ | exact map_snoc stD _ _ | exact map_snoc tsD _ _ | (simp only [chunks]; rfl) | (refine wid ?_ ?_ <;> omega) | exact wby _ | with_reducible exact wby32 _ | with_reducible exact wu32 _ | exact wby64 _ | exact shr8 _ | exact shr16 _ | exact shr24 _ | exact shr32 _ | (refine tmodn ?_; omega) | (refine wdiv ?_ ?_ ?_ <;> omega) | exact wbyte _ | exact natlit _ | exact rep_by _ | exact rep_in _ | exact rep_bo _ | exact rep_st _ | (refine pick_nat _ _ _ ?_; omega) | (refine pick_int _ _ _ ?_ ?_ <;> omega) | (refine SlOf.full ?_; first | (simp; done) | (simp; omega)) | (with_reducible refine SlOf.pre _ _ ?_; first | omega | (simp; omega)) | (refine SlF.self _ _ ?_ ?_; (first | rfl | omega | (simp; done) | (simp; omega)); (exact fun _ => rfl)) | (refine SlF.pre _ _ ?_ ?_; (first | omega | (simp; omega)); (exact fun _ => rfl)) | (refine SlF.same ?_ ?_; (first | rfl | omega | (simp; done) | (simp; omega)); (first | exact fz_self _ _ (fun _ => rfl) | exact fz_pl rfl | (refine Fz.append ?_ ?_ <;> first | exact fz_self _ _ (fun _ => rfl) | exact fz_pl rfl) | (refine Fz.append (Fz.append ?_ ?_) ?_ <;> first | exact fz_self _ _ (fun _ => rfl) | exact fz_pl rfl))) | (simp only [Int.toNat_natCast, Nat.zero_add, Nat.mul_one]; rfl) | ((show @Eq (Option CV) _ _); rfl) | ((fail_if_success (show @Eq (Option _) _ _)); rfl) | ((show @Eq (Option _) _ _); simp only [List.getElem?_cons_zero, List.getElem?_cons_succ]; done) | ((show @Eq (Option _) _ _); simp only [List.getElem?_cons_zero, List.getElem?_cons_succ]; rfl) | with_reducible rfl)); conv => whnf))); exact Done.mk trivial))); conv => whnf)
   refine pickJ (fun _ => true) rfl (by rw [addN_eq]; show _ < 4; omega) fun x _ hx => ?_
   try (conv => whnf)
   refine Hand.mk [] ?_
   try (conv => whnf)
   refine CallW.n (s_next hS2 (by omega) 3 (by omega)) ?_
   rintro _ _ ⟨a3, s3, _, rfl, hS3, v3, rfl, rfl, hv3⟩
   try (conv => whnf)
   repeat (refine Need.mk ?_ ?_; (focus (((conv => whnf); (repeat (first | (refine Need.mk (by first | rfl | omega | (simp; done)) ?_; conv => whnf) | (refine Pick.mk ?_ ?_ ?_; rotate_left; (focus (first | with_reducible exact xor_u8 _ _ | (with_reducible refine xor_i64 ?_ ?_; all_goals omega) | (with_reducible refine xor_u32 ?_ ?_; all_goals omega) | exact sl_ops _ rfl | assumption | with_reducible exact set_byN _ _ _ _ | with_reducible exact set_byI _ _ _ _ | with_reducible exact set_inN _ _ _ _ | with_reducible exact set_inI _ _ _ _ | with_reducible exact set_stN _ _ _ _ | with_reducible exact set_tsN _ _ _ _ | with_reducible exact set_tsI _ _ _ _ | with_reducible exact set_boN _ _ _ _ | with_reducible exact set_boI _ _ _ _ | (with_reducible refine get_mapN _ _ _ ?_; first | omega | (simp; omega)) | (with_reducible refine get_mapI _ _ _ ?_ ?_ <;> first | omega | (simp; omega)) | exact bs_beq _ _ | exact bs_less _ _ | exact bs_leq _ _ | with_reducible exact bs_app _ _ | (refine bs_get _ _ ?_; omega) | (refine bs_int _ _ ?_ ?_ <;> omega) | with_reducible exact sl_map0 _ _ _ | with_reducible exact sl_mapN _ _ _ | with_reducible exact sl_map _ _ _ _ | exact bs_extract0 _ _ | exact bs_extractN _ _ | exact bs_extract _ _ _ | (refine bnd_id ?_; omega) | (refine bnd_sub ?_ ?_ <;> omega) | (refine bnd_add ?_; omega) | (refine bnd_subN ?_ ?_ <;> omega) | (refine bnd_int ?_ ?_ <;> omega) | ((show @Eq Nat (_ + Int.toNat _ * _) _); simp only [Int.toNat_natCast, Nat.zero_add, Nat.mul_one]; rfl) | ((show @Eq (List _) (List.set [_] _ _) _); simp only [List.set_cons_zero]; rfl) | exact List.length_map _ | exact size_bs _ | (simp only [List.length_map, List.length_append, List.length_cons, List.length_nil, List.length_replicate, Nat.zero_add]; rfl) | with_reducible exact List.nil_append _ | with_reducible exact map_app _ _ _ | exact map_snoc byD _ _ | exact map_snoc inD _ _ | exact map_snoc stD _ _ | exact map_snoc tsD _ _ | (simp only [chunks]; rfl) | (refine wid ?_ ?_ <;> omega) | exact wby _ | with_reducible exact wby32 _ | with_reducible exact wu32 _ | exact wby64 _ | exact shr8 _ | exact shr16 _ | exact shr24 _ | exact shr32 _ | (refine tmodn ?_; omega) | (refine wdiv ?_ ?_ ?_ <;> omega) | exact wbyte _ | exact natlit _ | exact rep_by _ | exact rep_in _ | exact rep_bo _ | exact rep_st _ | (refine pick_nat _ _ _ ?_; omega) | (refine pick_int _ _ _ ?_ ?_ <;> omega) | (refine SlOf.full ?_; first | (simp; done) | (simp; omega)) | (with_reducible refine SlOf.pre _ _ ?_; first | omega | (simp; omega)) | (refine SlF.self _ _ ?_ ?_; (first | rfl | omega | (simp; done) | (simp; omega)); (exact fun _ => rfl)) | (refine SlF.pre _ _ ?_ ?_; (first | omega | (simp; omega)); (exact fun _ => rfl)) | (refine SlF.same ?_ ?_; (first | rfl | omega | (simp; done) | (simp; omega)); (first | exact fz_self _ _ (fun _ => rfl) | exact fz_pl rfl | (refine Fz.append ?_ ?_ <;> first | exact fz_self _ _ (fun _ => rfl) | exact fz_pl rfl) | (refine Fz.append (Fz.append ?_ ?_) ?_ <;> first | exact fz_self _ _ (fun _ => rfl) | exact fz_pl rfl))) | (simp only [Int.toNat_natCast, Nat.zero_add, Nat.mul_one]; rfl) | ((show @Eq (Option CV) _ _); rfl) | ((fail_if_success (show @Eq (Option _) _ _)); rfl) | ((show @Eq (Option _) _ _); simp only [List.getElem?_cons_zero, List.getElem?_cons_succ]; done) | ((show @Eq (Option _) _ _); simp only [List.getElem?_cons_zero, List.getElem?_cons_succ]; rfl) | with_reducible rfl)); conv => whnf))); exact Done.mk trivial))); conv => whnf)
   refine Out.mk false [0, 1, 2, 3, 4] [] ?_
   try (conv => whnf)
   exact ⟨_, _, [], rfl, hS3.mono (by omega), _, _, rfl, rfl⟩
  ·try (conv => whnf)
   refine Hand.mk [] ?_
   try (conv => whnf)
   refine CallW.n (s_next hS1 (by omega) 4 (by omega)) ?_
   rintro _ _ ⟨a2, s2, _, rfl, hS2, v2, rfl, rfl, hv2⟩
   try (conv => whnf)
   repeat (refine Need.mk ?_ ?_; (focus (((conv => whnf); (repeat (first | (refine Need.mk (by first | rfl | omega | (simp; done)) ?_; conv => whnf) | (refine Pick.mk ?_ ?_ ?_; rotate_left; (focus (first | with_reducible exact xor_u8 _ _ | (with_reducible refine xor_i64 ?_ ?_; all_goals omega) | (with_reducible refine xor_u32 ?_ ?_; all_goals omega) | exact sl_ops _ rfl | assumption | with_reducible exact set_byN _ _ _ _ | with_reducible exact set_byI _ _ _ _ | with_reducible exact set_inN _ _ _ _ | with_reducible exact set_inI _ _ _ _ | with_reducible exact set_stN _ _ _ _ | with_reducible exact set_tsN _ _ _ _ | with_reducible exact set_tsI _ _ _ _ | with_reducible exact set_boN _ _ _ _ | with_reducible exact set_boI _ _ _ _ | (with_reducible refine get_mapN _ _ _ ?_; first | omega | (simp; omega)) | (with_reducible refine get_mapI _ _ _ ?_ ?_ <;> first | omega | (simp; omega)) | exact bs_beq _ _ | exact bs_less _ _ | exact bs_leq _ _ | with_reducible exact bs_app _ _ | (refine bs_get _ _ ?_; omega) | (refine bs_int _ _ ?_ ?_ <;> omega) | with_reducible exact sl_map0 _ _ _ | with_reducible exact sl_mapN _ _ _ | with_reducible exact sl_map _ _ _ _ | exact bs_extract0 _ _ | exact bs_extractN _ _ | exact bs_extract _ _ _ | (refine bnd_id ?_; omega) | (refine bnd_sub ?_ ?_ <;> omega) | (refine bnd_add ?_; omega) | (refine bnd_subN ?_ ?_ <;> omega) | (refine bnd_int ?_ ?_ <;> omega) | ((show @Eq Nat (_ + Int.toNat _ * _) _); simp only [Int.toNat_natCast, Nat.zero_add, Nat.mul_one]; rfl) | ((show @Eq (List _) (List.set [_] _ _) _); simp only [List.set_cons_zero]; rfl) | exact List.length_map _ | exact size_bs _ | (simp only [List.length_map, List.length_append, List.length_cons, List.length_nil, List.length_replicate, Nat.zero_add]; rfl) | with_reducible exact List.nil_append _ | with_reducible exact map_app _ _ _ | exact map_snoc byD _ _ | exact map_snoc inD _ _ | exact map_snoc stD _ _ | exact map_snoc tsD _ _ | (simp only [chunks]; rfl) | (refine wid ?_ ?_ <;> omega) | exact wby _ | with_reducible exact wby32 _ | with_reducible exact wu32 _ | exact wby64 _ | exact shr8 _ | exact shr16 _ | exact shr24 _ | exact shr32 _ | (refine tmodn ?_; omega) | (refine wdiv ?_ ?_ ?_ <;> omega) | exact wbyte _ | exact natlit _ | exact rep_by _ | exact rep_in _ | exact rep_bo _ | exact rep_st _ | (refine pick_nat _ _ _ ?_; omega) | (refine pick_int _ _ _ ?_ ?_ <;> omega) | (refine SlOf.full ?_; first | (simp; done) | (simp; omega)) | (with_reducible refine SlOf.pre _ _ ?_; first | omega | (simp; omega)) | (refine SlF.self _ _ ?_ ?_; (first | rfl | omega | (simp; done) | (simp; omega)); (exact fun _ => rfl)) | (refine SlF.pre _ _ ?_ ?_; (first | omega | (simp; omega)); (exact fun _ => rfl)) | (refine SlF.same ?_ ?_; (first | rfl | omega | (simp; done) | (simp; omega)); (first | exact fz_self _ _ (fun _ => rfl) | exact fz_pl rfl | (refine Fz.append ?_ ?_ <;> first | exact fz_self _ _ (fun _ => rfl) | exact fz_pl rfl) | (refine Fz.append (Fz.append ?_ ?_) ?_ <;> first | exact fz_self _ _ (fun _ => rfl) | exact fz_pl rfl))) | (simp only [Int.toNat_natCast, Nat.zero_add, Nat.mul_one]; rfl) | ((show @Eq (Option CV) _ _); rfl) | ((fail_if_success (show @Eq (Option _) _ _)); rfl) | ((show @Eq (Option _) _ _); simp only [List.getElem?_cons_zero, List.getElem?_cons_succ]; done) | ((show @Eq (Option _) _ _); simp only [List.getElem?_cons_zero, List.getElem?_cons_succ]; rfl) | with_reducible rfl)); conv => whnf))); exact Done.mk trivial))); conv => whnf)
   refine Need.mk ?_ ?_
   ·try (conv => whnf)
    repeat (first
     | (refine Need.mk ?_ ?_; (focus (first | omega | ((conv => whnf); (repeat (first | (refine Need.mk (by first | rfl | omega | (simp; done)) ?_; conv => whnf) | (refine Pick.mk ?_ ?_ ?_; rotate_left; (focus (first | with_reducible exact xor_u8 _ _ | (with_reducible refine xor_i64 ?_ ?_; all_goals omega) | (with_reducible refine xor_u32 ?_ ?_; all_goals omega) | exact sl_ops _ rfl | assumption | with_reducible exact set_byN _ _ _ _ | with_reducible exact set_byI _ _ _ _ | with_reducible exact set_inN _ _ _ _ | with_reducible exact set_inI _ _ _ _ | with_reducible exact set_stN _ _ _ _ | with_reducible exact set_tsN _ _ _ _ | with_reducible exact set_tsI _ _ _ _ | with_reducible exact set_boN _ _ _ _ | with_reducible exact set_boI _ _ _ _ | (with_reducible refine get_mapN _ _ _ ?_; first | omega | (simp; omega)) | (with_reducible refine get_mapI _ _ _ ?_ ?_ <;> first | omega | (simp; omega)) | exact bs_beq _ _ | exact bs_less _ _ | exact bs_leq _ _ | with_reducible exact bs_app _ _ | (refine bs_get _ _ ?_; omega) | (refine bs_int _ _ ?_ ?_ <;> omega) | with_reducible exact sl_map0 _ _ _ | with_reducible exact sl_mapN _ _ _ | with_reducible exact sl_map _ _ _ _ | exact bs_extract0 _ _ | exact bs_extractN _ _ | exact bs_extract _ _ _ | (refine bnd_id ?_; omega) | (refine bnd_sub ?_ ?_ <;> omega) | (refine bnd_add ?_; omega) | (refine bnd_subN ?_ ?_ <;> omega) | (refine bnd_int ?_ ?_ <;> omega) | ((show @Eq Nat (_ + Int.toNat _ * _) _); simp only [Int.toNat_natCast, Nat.zero_add, Nat.mul_one]; rfl) | ((show @Eq (List _) (List.set [_] _ _) _); simp only [List.set_cons_zero]; rfl) | exact List.length_map _ | exact size_bs _ | (simp only [List.length_map, List.length_append, List.length_cons, List.length_nil, List.length_replicate, Nat.zero_add]; rfl) | with_reducible exact List.nil_append _ | with_reducible exact map_app _ _ _ | exact map_snoc byD _ _ | exact map_snoc inD _ _ | exact map_snoc stD _ _ | exact map_snoc tsD _ _ | (simp only [chunks]; rfl) | (refine wid ?_ ?_ <;> omega) | exact wby _ | with_reducible exact wby32 _ | with_reducible exact wu32 _ | exact wby64 _ | exact shr8 _ | exact shr16 _ | exact shr24 _ | exact shr32 _ | (refine tmodn ?_; omega) | (refine wdiv ?_ ?_ ?_ <;> omega) | exact wbyte _ | exact natlit _ | exact rep_by _ | exact rep_in _ | exact rep_bo _ | exact rep_st _ | (refine pick_nat _ _ _ ?_; omega) | (refine pick_int _ _ _ ?_ ?_ <;> omega) | (refine SlOf.full ?_; first | (simp; done) | (simp; omega)) | (with_reducible refine SlOf.pre _ _ ?_; first | omega | (simp; omega)) | (refine SlF.self _ _ ?_ ?_; (first | rfl | omega | (simp; done) | (simp; omega)); (exact fun _ => rfl)) | (refine SlF.pre _ _ ?_ ?_; (first | omega | (simp; omega)); (exact fun _ => rfl)) | (refine SlF.same ?_ ?_; (first | rfl | omega | (simp; done) | (simp; omega)); (first | exact fz_self _ _ (fun _ => rfl) | exact fz_pl rfl | (refine Fz.append ?_ ?_ <;> first | exact fz_self _ _ (fun _ => rfl) | exact fz_pl rfl) | (refine Fz.append (Fz.append ?_ ?_) ?_ <;> first | exact fz_self _ _ (fun _ => rfl) | exact fz_pl rfl))) | (simp only [Int.toNat_natCast, Nat.zero_add, Nat.mul_one]; rfl) | ((show @Eq (Option CV) _ _); rfl) | ((fail_if_success (show @Eq (Option _) _ _)); rfl) | ((show @Eq (Option _) _ _); simp only [List.getElem?_cons_zero, List.getElem?_cons_succ]; done) | ((show @Eq (Option _) _ _); simp only [List.getElem?_cons_zero, List.getElem?_cons_succ]; rfl) | with_reducible rfl)); conv => whnf))); exact Done.mk trivial))); conv => whnf)
     | (refine Pick.mk ?_ ?_ ?_; rotate_left; (focus ((simp only [chunks]; rfl))); conv => whnf))
    refine pickJ (fun _ => true) rfl (by rw [addN_eq]; show _ < 4; omega) fun x _ hx => ?_
    try (conv => whnf)
    refine Hand.mk [] ?_
    try (conv => whnf)
    refine CallW.n (s_next hS2 (by omega) 3 (by omega)) ?_
    rintro _ _ ⟨a3, s3, _, rfl, hS3, v3, rfl, rfl, hv3⟩
    try (conv => whnf)
    repeat (refine Need.mk ?_ ?_; (focus (((conv => whnf); (repeat (first | (refine Need.mk (by first | rfl | omega | (simp; done)) ?_; conv => whnf) | (refine Pick.mk ?_ ?_ ?_; rotate_left; (focus (first | with_reducible exact xor_u8 _ _ | (with_reducible refine xor_i64 ?_ ?_; all_goals omega) | (with_reducible refine xor_u32 ?_ ?_; all_goals omega) | exact sl_ops _ rfl | assumption | with_reducible exact set_byN _ _ _ _ | with_reducible exact set_byI _ _ _ _ | with_reducible exact set_inN _ _ _ _ | with_reducible exact set_inI _ _ _ _ | with_reducible exact set_stN _ _ _ _ | with_reducible exact set_tsN _ _ _ _ | with_reducible exact set_tsI _ _ _ _ | with_reducible exact set_boN _ _ _ _ | with_reducible exact set_boI _ _ _ _ | (with_reducible refine get_mapN _ _ _ ?_; first | omega | (simp; omega)) | (with_reducible refine get_mapI _ _ _ ?_ ?_ <;> first | omega | (simp; omega)) | exact bs_beq _ _ | exact bs_less _ _ | exact bs_leq _ _ | with_reducible exact bs_app _ _ | (refine bs_get _ _ ?_; omega) | (refine bs_int _ _ ?_ ?_ <;> omega) | with_reducible exact sl_map0 _ _ _ | with_reducible exact sl_mapN _ _ _ | with_reducible exact sl_map _ _ _ _ | exact bs_extract0 _ _ | exact bs_extractN _ _ | exact bs_extract _ _ _ | (refine bnd_id ?_; omega) | (refine bnd_sub ?_ ?_ <;> omega) | (refine bnd_add ?_; omega) | (refine bnd_subN ?_ ?_ <;> omega) | (refine bnd_int ?_ ?_ <;> omega) | ((show @Eq Nat (_ + Int.toNat _ * _) _); simp only [Int.toNat_natCast, Nat.zero_add, Nat.mul_one]; rfl) | ((show @Eq (List _) (List.set [_] _ _) _); simp only [List.set_cons_zero]; rfl) | exact List.length_map _ | exact size_bs _ | (simp only [List.length_map, List.length_append, List.length_cons, List.length_nil, List.length_replicate, Nat.zero_add]; rfl) | with_reducible exact List.nil_append _ | with_reducible exact map_app _ _ _ | exact map_snoc byD _ _ | exact map_snoc inD _ _ | exact map_snoc stD _ _ | exact map_snoc tsD _ _ | (simp only [chunks]; rfl) | (refine wid ?_ ?_ <;> omega) | exact wby _ | with_reducible exact wby32 _ | with_reducible exact wu32 _ | exact wby64 _ | exact shr8 _ | exact shr16 _ | exact shr24 _ | exact shr32 _ | (refine tmodn ?_; omega) | (refine wdiv ?_ ?_ ?_ <;> omega) | exact wbyte _ | exact natlit _ | exact rep_by _ | exact rep_in _ | exact rep_bo _ | exact rep_st _ | (refine pick_nat _ _ _ ?_; omega) | (refine pick_int _ _ _ ?_ ?_ <;> omega) | (refine SlOf.full ?_; first | (simp; done) | (simp; omega)) | (with_reducible refine SlOf.pre _ _ ?_; first | omega | (simp; omega)) | (refine SlF.self _ _ ?_ ?_; (first | rfl | omega | (simp; done) | (simp; omega)); (exact fun _ => rfl)) | (refine SlF.pre _ _ ?_ ?_; (first | omega | (simp; omega)); (exact fun _ => rfl)) | (refine SlF.same ?_ ?_; (first | rfl | omega | (simp; done) | (simp; omega)); (first | exact fz_self _ _ (fun _ => rfl) | exact fz_pl rfl | (refine Fz.append ?_ ?_ <;> first | exact fz_self _ _ (fun _ => rfl) | exact fz_pl rfl) | (refine Fz.append (Fz.append ?_ ?_) ?_ <;> first | exact fz_self _ _ (fun _ => rfl) | exact fz_pl rfl))) | (simp only [Int.toNat_natCast, Nat.zero_add, Nat.mul_one]; rfl) | ((show @Eq (Option CV) _ _); rfl) | ((fail_if_success (show @Eq (Option _) _ _)); rfl) | ((show @Eq (Option _) _ _); simp only [List.getElem?_cons_zero, List.getElem?_cons_succ]; done) | ((show @Eq (Option _) _ _); simp only [List.getElem?_cons_zero, List.getElem?_cons_succ]; rfl) | with_reducible rfl)); conv => whnf))); exact Done.mk trivial))); conv => whnf)
    refine Out.mk false [0, 1, 2, 3, 4] [] ?_
    try (conv => whnf)
    exact ⟨_, _, [], rfl, hS3.mono (by omega), _, _, rfl, rfl⟩
   ·try (conv => whnf)
    refine Hand.mk [] ?_
    try (conv => whnf)
    refine CallW.n (s_next hS2 (by omega) 3 (by omega)) ?_
    rintro _ _ ⟨a3, s3, _, rfl, hS3, v3, rfl, rfl, hv3⟩
    try (conv => whnf)
    repeat (first
     | (refine Need.mk ?_ ?_; (focus (omega)); conv => whnf)
     | (refine Pick.mk ?_ ?_ ?_; rotate_left; (focus ((simp only [chunks]; rfl))); conv => whnf))
    refine pickJ (fun _ => true) rfl (by rw [addN_eq]; show _ < 4; omega) fun x _ hx => ?_
    try (conv => whnf)
    refine Out.mk false [0, 1, 2, 3, 4] [] ?_
    try (conv => whnf)
    exact ⟨_, _, [], rfl, hS3.mono (by omega), _, _, rfl, rfl⟩
 ·refine Hand.mk [] ?_
  try (conv => whnf)
  refine CallW.n (s_next hS1 (by omega) 3 (by omega)) ?_
  rintro _ _ ⟨a2, s2, _, rfl, hS2, v2, rfl, rfl, hv2⟩
  try (conv => whnf)
  repeat (refine Pick.mk ?_ ?_ ?_; rotate_left; (focus (first | (simp only [chunks]; rfl) | (refine wid ?_ ?_ <;> omega))); conv => whnf)
  refine Hand.mk [] ?_
  try (conv => whnf)
  refine CallW.n (s_next hS2 (by omega) 3 (by omega)) ?_
  rintro _ _ ⟨a3, s3, _, rfl, hS3, v3, rfl, rfl, hv3⟩
  try (conv => whnf)
  repeat (refine Need.mk ?_ ?_; (focus (omega)); conv => whnf)
  refine pickJ (fun _ => true) rfl (by rw [addN_eq]; show _ < 3; omega) fun x _ hx => ?_
  try (conv => whnf)
  refine Out.mk false [0, 1, 2, 3, 4] [] ?_
  try (conv => whnf)
  exact ⟨_, _, [], rfl, hS3.mono (by omega), _, _, rfl, rfl⟩
 ·refine Out.mk false [0, 1, 2, 3, 4] [] ?_
  try (conv => whnf)
  exact ⟨_, _, [], rfl, hS1.mono (by omega), _, _, rfl, rfl⟩
 ·refine Hand.mk [] ?_
  try (conv => whnf)
  refine CallW.n (s_stamp hS1 (by omega)) ?_
  rintro _ _ ⟨a2, s2, _, rfl, hS2, t, c, rfl, rfl, hv⟩
  try (conv => whnf)
  refine Out.mk false [0, 1, 2, 3, 4] [] ?_
  try (conv => whnf)
  exact ⟨_, _, [], rfl, hS2.mono (by omega), _, _, rfl, rfl⟩
theorem makeO_w {t : Int} {l : List OpV} {a : Int} {o : OpV} (hw : ∀ o ∈ l, OpW t o) (ha : actOk a) (h0 : 0 ≤ t) (ht : o.time = 0) (hk : o.key.length ≤ 200) (hx : o.text.length ≤ 200) : OpW (t + 1) (makeO l a o) := by
 have := maxT_le (l := l) (t := o.time) (u := t) (fun x hx => (hw x hx).time.2) (by omega)
 exact ⟨ha, ⟨by simp only [makeO]; omega, by simp only [makeO]; omega⟩, by simp [makeO], hk, hx⟩
abbrev sD (x : Int × Int) : List DV := [.sc (.int .i64 x.1), .sc (.int .i64 x.2)]
abbrev DO_ (Q : OpV → Prop) : SV → List Row → Prop := fun r Lo => ∃ o, Lo = [] ∧ r = vO o ∧ Q o
theorem s_l08Some (hS : Src code a s b) (hb : b ≤ 2 ^ 57) (t : Int) (l : List OpV) (act : Int) (hl : l.length ≤ 2 ^ 20) (hw : ∀ o ∈ l, OpW t o) (ha : actOk act) (h0 : 0 ≤ t) (ht : t ≤ 2 ^ 49) :
  CallM Try.prog id_spec_l08Some [.one (.ptr 0 0), vL l, vI .i64 act] [srcR code a s] [] false (Draws code (b + 60) (DO_ fun o => OpW (t + 1) o ∧ o.actor = act)) := by
 refine F_spec_l08Some ?_
 have hw2 : ∀ o ∈ l, OpW (2 ^ 50) o := fun o ho => (hw o ho).mono (by omega)
 try (conv => whnf)
 refine Hand.mk [] ?_
 try (conv => whnf)
 refine CallW.n (s_next hS (by omega) 6 (by omega)) ?_
 rintro _ _ ⟨a1, s1, _, rfl, hS1, v1, rfl, rfl, hv1⟩
 try (conv => whnf)
 repeat (refine SeqJ.thru ?_; conv => whnf)
 try (conv => whnf)
 repeat' (first
  | (refine SeqJ.thru ?_; conv => whnf)
  | (refine br_dec (fun _ => ?_) (fun _ => ?_) <;> first | (exfalso; omega) | contradiction | conv => whnf)
  | (refine br_not ?_; conv => whnf)
  | (refine br_bne (fun _ => ?_) (fun _ => ?_) <;> first | (exfalso; omega) | contradiction | conv => whnf)
  | (refine br_beq (fun _ => ?_) (fun _ => ?_) <;> first | (exfalso; omega) | contradiction | conv => whnf))
 rotate_left 2
 ·refine Hand.mk [] ?_
  try (conv => whnf)
  refine CallW.n (s_next hS1 (by omega) 20 (by omega)) ?_
  rintro _ _ ⟨a2, s2, _, rfl, hS2, v2, rfl, rfl, hv2⟩
  try (conv => whnf)
  repeat (refine Pick.mk ?_ ?_ ?_; rotate_left; (focus ((refine wid ?_ ?_ <;> omega))); conv => whnf)
  refine Hand.mk [] ?_
  try (conv => whnf)
  refine CallW.k (s_l08Make l act ⟨0, 0, 0, [], 4, 5, v2 - 8, 0, 0, 0, [], []⟩ hl hw2 ha (by simp only; omega)) ?_
  try (conv => whnf)
  refine Out.mk false [0, 1, 2, 3, 4] [] ?_
  try (conv => whnf)
  exact ⟨_, _, [], rfl, hS2.mono (by omega), _, rfl, rfl, makeO_w hw ha h0 rfl (by first | (simp; done) | (dsimp only; omega)) (by first | (simp; done) | (dsimp only; omega)), rfl⟩
 ·refine Hand.mk [] ?_
  try (conv => whnf)
  refine CallW.n (s_next hS1 (by omega) 2 (by omega)) ?_
  rintro _ _ ⟨a2, s2, _, rfl, hS2, v2, rfl, rfl, hv2⟩
  try (conv => whnf)
  repeat (refine Pick.mk ?_ ?_ ?_; rotate_left; (focus (first | (simp only [chunks]; rfl) | (refine wid ?_ ?_ <;> omega))); conv => whnf)
  refine LoopE.mk (fun x : Nat × List (Int × Int) => mk [(0, .one (.ptr 0 0)), (1, vL l), (2, vI .i64 act), (6, .one (.ptr 4096 0)), (7, vI .i64 (3 + v2)), (8, .one (.os (.v 36864) 2 0 x.2.length)), (9, vI .i64 x.1)] [(0, srcR code a2 s2), (4096, .box [cI 0, cI 0, cI 0, .nil, cI 0, cI 0, cI 0, cI 0, cI 0, cI 0, cS (bs []), cS (bs [])]), (36864, .own 2 (x.2.map sD))]) (fun x => x.1 ≤ l.length ∧ x.2.length ≤ x.1) (fun x => l.length - x.1) (0, []) ⟨by omega, by simp⟩ (LeX.of ?_) ?_
  ·try (conv => whnf)
   repeat (refine Need.mk ?_ ?_; (focus (first | omega | (simp; done) | rfl)); conv => whnf)
   trivial
  ·rintro ⟨i, ids⟩ ⟨hi, hids⟩
   simp only at hi hids ⊢
   by_cases hlt : i < l.length
   ·try (conv => whnf)
    repeat' (first
     | (refine Pick.mk ?_ ?_ ?_; rotate_left; (focus (first | exact List.length_map _ | (refine wid ?_ ?_ <;> omega) | (refine pick_nat _ _ _ ?_; omega))); conv => whnf)
     | (refine SeqJ.thru ?_; conv => whnf)
     | (refine br_dec (fun _ => ?_) (fun _ => ?_) <;> first | (exfalso; omega) | contradiction | conv => whnf)
     | (refine br_not ?_; conv => whnf)
     | (refine br_bne (fun _ => ?_) (fun _ => ?_) <;> first | (exfalso; omega) | contradiction | conv => whnf)
     | (refine br_beq (fun _ => ?_) (fun _ => ?_) <;> first | (exfalso; omega) | contradiction | conv => whnf))
    all_goals
     first
      |skip
       refine Hand.mk [] ?_
       try (conv => whnf)
       refine CallW.d (s_l08Stamp (l[i]'(by omega))) ?_
       try (conv => whnf)
       repeat (first
        | (refine Need.mk ?_ ?_; (focus ((simp only [List.length_map, List.length_append, List.length_cons, List.length_nil, List.length_replicate]; omega))); conv => whnf)
        | (refine Pick.mk ?_ ?_ ?_; rotate_left; (focus (first | (simp only [List.length_map, List.length_append, List.length_cons, List.length_nil, List.length_replicate, Nat.zero_add]; rfl) | (simp only [chunks]; rfl) | (refine wid ?_ ?_ <;> omega) | (refine SlOf.full ?_; first | (simp; done) | (simp; omega)) | ((fail_if_success (show @Eq (Option _) _ _)); rfl))); conv => whnf))
       refine Pick.mk (i + 1, ids ++ [((l[i]'(by omega)).time, (l[i]'(by omega)).actor)]) ⟨⟨by simp only; omega, by simp; omega⟩, by simp only; omega⟩ (LeX.of ?_)
       try (conv => whnf)
       repeat (refine Need.mk ?_ ?_; (focus (first | omega | (simp; done))); conv => whnf)
       trivial
      |skip
       refine Pick.mk (i + 1, ids) ⟨⟨by simp only; omega, by simp only; omega⟩, by simp only; omega⟩ (LeX.of ?_)
       try (conv => whnf)
       repeat (refine Need.mk ?_ ?_; (focus (first | omega | (simp; done))); conv => whnf)
       trivial
   ·try (conv => whnf)
    repeat' (first
     | (refine Pick.mk ?_ ?_ ?_; rotate_left; (focus (first | exact List.length_map _ | (simp only [chunks]; rfl))); conv => whnf)
     | (refine SeqJ.thru ?_; conv => whnf)
     | (refine br_dec (fun _ => ?_) (fun _ => ?_) <;> first | (exfalso; omega) | contradiction | conv => whnf)
     | (refine br_not ?_; conv => whnf)
     | (refine br_bne (fun _ => ?_) (fun _ => ?_) <;> first | (exfalso; omega) | contradiction | conv => whnf)
     | (refine br_beq (fun _ => ?_) (fun _ => ?_) <;> first | (exfalso; omega) | contradiction | conv => whnf))
    refine Hand.mk [] ?_
    try (conv => whnf)
    refine CallW.n (s_next hS2 (by omega) 4 (by omega)) ?_
    rintro _ _ ⟨a3, s3, _, rfl, hS3, v3, rfl, rfl, hv3⟩
    try (conv => whnf)
    repeat (refine Need.mk ?_ ?_; (focus (omega)); conv => whnf)
    refine pickJ (fun _ => true) rfl (by rw [addN_eq]; show _ < 4; omega) fun x _ hx => ?_
    try (conv => whnf)
    repeat (refine SeqJ.thru ?_; conv => whnf)
    by_cases hid : 0 < ids.length
    ·try (conv => whnf)
     repeat' (first
      | (refine br_dec (fun _ => ?_) (fun _ => ?_) <;> first | (exfalso; omega) | contradiction | conv => whnf)
      | (refine br_not ?_; conv => whnf)
      | (refine br_bne (fun _ => ?_) (fun _ => ?_) <;> first | (exfalso; omega) | contradiction | conv => whnf)
      | (refine br_beq (fun _ => ?_) (fun _ => ?_) <;> first | (exfalso; omega) | contradiction | conv => whnf))
     refine Hand.mk [] ?_
     try (conv => whnf)
     refine CallW.n (s_chance hS3 (by omega) 4 (by omega) (by omega)) ?_
     rintro _ _ ⟨a4, s4, _, rfl, hS4, v4, rfl, rfl, hv4⟩
     try (conv => whnf)
     cases v4
     ·try (conv => whnf)
      repeat' (first
       | (refine Pick.mk ?_ ?_ ?_; rotate_left; (focus ((refine wid ?_ ?_ <;> omega))); conv => whnf)
       | (refine br_dec (fun _ => ?_) (fun _ => ?_) <;> first | (exfalso; omega) | contradiction | conv => whnf)
       | (refine br_not ?_; conv => whnf)
       | (refine br_bne (fun _ => ?_) (fun _ => ?_) <;> first | (exfalso; omega) | contradiction | conv => whnf)
       | (refine br_beq (fun _ => ?_) (fun _ => ?_) <;> first | (exfalso; omega) | contradiction | conv => whnf))
      obtain ⟨m, hm⟩ : ∃ m : Int, m = if (ids.length : Int) < 3 then (ids.length : Int) else 3 := ⟨_, rfl⟩
      have hm2 : 1 ≤ m ∧ m ≤ ids.length ∧ m ≤ 3 := by rw [hm]; split <;> omega
      rw [← hm]
      refine Hand.mk [] ?_
      try (conv => whnf)
      refine CallW.n (s_next hS4 (by omega) m (by omega)) ?_
      rintro _ _ ⟨a5, s5, _, rfl, hS5, v5, rfl, rfl, hv5⟩
      try (conv => whnf)
      repeat (first
       | (refine Need.mk ?_ ?_; (focus (omega)); conv => whnf)
       | (refine Pick.mk ?_ ?_ ?_; rotate_left; (focus (first | (with_reducible refine get_mapI _ _ _ ?_ ?_ <;> first | omega | (simp; omega)) | (refine wid ?_ ?_ <;> omega))); conv => whnf))
      refine Hand.mk [] ?_
      try (conv => whnf)
      refine CallW.n (s_chance hS5 (by omega) 4 (by omega) (by omega)) ?_
      rintro _ _ ⟨a6, s6, _, rfl, hS6, v6, rfl, rfl, hv6⟩
      try (conv => whnf)
      obtain ⟨q, hq⟩ : ∃ q : Int × Int, q = ids[((ids.length : Int) - 1 - v5).toNat]'(by omega) := ⟨_, rfl⟩
      cases v6
      ·try (conv => whnf)
       repeat' (first
        | (refine br_dec (fun _ => ?_) (fun _ => ?_) <;> first | (exfalso; omega) | contradiction | conv => whnf)
        | (refine br_not ?_; conv => whnf)
        | (refine br_bne (fun _ => ?_) (fun _ => ?_) <;> first | (exfalso; omega) | contradiction | conv => whnf)
        | (refine br_beq (fun _ => ?_) (fun _ => ?_) <;> first | (exfalso; omega) | contradiction | conv => whnf))
       refine Hand.mk [] ?_
       try (conv => whnf)
       refine CallW.k (s_l08Make l act ⟨0, 0, 0, [], 2, 3 + v2, x, 0, (ids[((ids.length : Int) - 1 - v5).toNat]'(by omega)).1, (ids[((ids.length : Int) - 1 - v5).toNat]'(by omega)).2, [], []⟩ hl hw2 ha (by simp only; omega)) ?_
       try (conv => whnf)
       refine Out.mk false [0, 1, 2, 3, 4] [] ?_
       try (conv => whnf)
       exact ⟨_, _, [], rfl, hS6.mono (by omega), _, rfl, rfl, makeO_w hw ha h0 rfl (by first | (simp; done) | (dsimp only; omega)) (by first | (simp; done) | (dsimp only; omega)), rfl⟩
      ·try (conv => whnf)
       repeat' (first
        | (refine br_dec (fun _ => ?_) (fun _ => ?_) <;> first | (exfalso; omega) | contradiction | conv => whnf)
        | (refine br_not ?_; conv => whnf)
        | (refine br_bne (fun _ => ?_) (fun _ => ?_) <;> first | (exfalso; omega) | contradiction | conv => whnf)
        | (refine br_beq (fun _ => ?_) (fun _ => ?_) <;> first | (exfalso; omega) | contradiction | conv => whnf))
       refine Hand.mk [] ?_
       try (conv => whnf)
       refine CallW.k (s_l08Make l act ⟨0, 0, 0, [], 3, 3 + v2, 0, 0, (ids[((ids.length : Int) - 1 - v5).toNat]'(by omega)).1, (ids[((ids.length : Int) - 1 - v5).toNat]'(by omega)).2, [], []⟩ hl hw2 ha (by simp only; omega)) ?_
       try (conv => whnf)
       refine Out.mk false [0, 1, 2, 3, 4] [] ?_
       try (conv => whnf)
       exact ⟨_, _, [], rfl, hS6.mono (by omega), _, rfl, rfl, makeO_w hw ha h0 rfl (by first | (simp; done) | (dsimp only; omega)) (by first | (simp; done) | (dsimp only; omega)), rfl⟩
     ·try (conv => whnf)
      repeat' (first
       | (refine br_dec (fun _ => ?_) (fun _ => ?_) <;> first | (exfalso; omega) | contradiction | conv => whnf)
       | (refine br_not ?_; conv => whnf)
       | (refine br_bne (fun _ => ?_) (fun _ => ?_) <;> first | (exfalso; omega) | contradiction | conv => whnf)
       | (refine br_beq (fun _ => ?_) (fun _ => ?_) <;> first | (exfalso; omega) | contradiction | conv => whnf))
      refine Hand.mk [] ?_
      try (conv => whnf)
      refine CallW.k (s_l08Make l act ⟨0, 0, 0, [], 2, 3 + v2, x, 0, 0, 0, [], []⟩ hl hw2 ha (by simp only; omega)) ?_
      try (conv => whnf)
      refine Out.mk false [0, 1, 2, 3, 4] [] ?_
      try (conv => whnf)
      exact ⟨_, _, [], rfl, hS4.mono (by omega), _, rfl, rfl, makeO_w hw ha h0 rfl (by first | (simp; done) | (dsimp only; omega)) (by first | (simp; done) | (dsimp only; omega)), rfl⟩
    ·try (conv => whnf)
     repeat' (first
      | (refine br_dec (fun _ => ?_) (fun _ => ?_) <;> first | (exfalso; omega) | contradiction | conv => whnf)
      | (refine br_not ?_; conv => whnf)
      | (refine br_bne (fun _ => ?_) (fun _ => ?_) <;> first | (exfalso; omega) | contradiction | conv => whnf)
      | (refine br_beq (fun _ => ?_) (fun _ => ?_) <;> first | (exfalso; omega) | contradiction | conv => whnf))
     refine Hand.mk [] ?_
     try (conv => whnf)
     refine CallW.k (s_l08Make l act ⟨0, 0, 0, [], 2, 3 + v2, x, 0, 0, 0, [], []⟩ hl hw2 ha (by simp only; omega)) ?_
     try (conv => whnf)
     refine Out.mk false [0, 1, 2, 3, 4] [] ?_
     try (conv => whnf)
     exact ⟨_, _, [], rfl, hS3.mono (by omega), _, rfl, rfl, makeO_w hw ha h0 rfl (by first | (simp; done) | (dsimp only; omega)) (by first | (simp; done) | (dsimp only; omega)), rfl⟩
 ·try (conv => whnf)
  repeat' (first
   | (refine Need.ways ?_ ?_ <;> conv => whnf)
   | (refine Need.mk ?_ ?_; (focus (((conv => whnf); (repeat (first | (refine Need.mk (by first | rfl | omega | (simp; done)) ?_; conv => whnf) | (refine Pick.mk ?_ ?_ ?_; rotate_left; (focus (first | with_reducible exact xor_u8 _ _ | (with_reducible refine xor_i64 ?_ ?_; all_goals omega) | (with_reducible refine xor_u32 ?_ ?_; all_goals omega) | exact sl_ops _ rfl | assumption | with_reducible exact set_byN _ _ _ _ | with_reducible exact set_byI _ _ _ _ | with_reducible exact set_inN _ _ _ _ | with_reducible exact set_inI _ _ _ _ | with_reducible exact set_stN _ _ _ _ | with_reducible exact set_tsN _ _ _ _ | with_reducible exact set_tsI _ _ _ _ | with_reducible exact set_boN _ _ _ _ | with_reducible exact set_boI _ _ _ _ | (with_reducible refine get_mapN _ _ _ ?_; first | omega | (simp; omega)) | (with_reducible refine get_mapI _ _ _ ?_ ?_ <;> first | omega | (simp; omega)) | exact bs_beq _ _ | exact bs_less _ _ | exact bs_leq _ _ | with_reducible exact bs_app _ _ | (refine bs_get _ _ ?_; omega) | (refine bs_int _ _ ?_ ?_ <;> omega) | with_reducible exact sl_map0 _ _ _ | with_reducible exact sl_mapN _ _ _ | with_reducible exact sl_map _ _ _ _ | exact bs_extract0 _ _ | exact bs_extractN _ _ | exact bs_extract _ _ _ | (refine bnd_id ?_; omega) | (refine bnd_sub ?_ ?_ <;> omega) | (refine bnd_add ?_; omega) | (refine bnd_subN ?_ ?_ <;> omega) | (refine bnd_int ?_ ?_ <;> omega) | ((show @Eq Nat (_ + Int.toNat _ * _) _); simp only [Int.toNat_natCast, Nat.zero_add, Nat.mul_one]; rfl) | ((show @Eq (List _) (List.set [_] _ _) _); simp only [List.set_cons_zero]; rfl) | exact List.length_map _ | exact size_bs _ | (simp only [List.length_map, List.length_append, List.length_cons, List.length_nil, List.length_replicate, Nat.zero_add]; rfl) | with_reducible exact List.nil_append _ | with_reducible exact map_app _ _ _ | exact map_snoc byD _ _ | exact map_snoc inD _ _ | exact map_snoc stD _ _ | exact map_snoc tsD _ _ | (simp only [chunks]; rfl) | (refine wid ?_ ?_ <;> omega) | exact wby _ | with_reducible exact wby32 _ | with_reducible exact wu32 _ | exact wby64 _ | exact shr8 _ | exact shr16 _ | exact shr24 _ | exact shr32 _ | (refine tmodn ?_; omega) | (refine wdiv ?_ ?_ ?_ <;> omega) | exact wbyte _ | exact natlit _ | exact rep_by _ | exact rep_in _ | exact rep_bo _ | exact rep_st _ | (refine pick_nat _ _ _ ?_; omega) | (refine pick_int _ _ _ ?_ ?_ <;> omega) | (refine SlOf.full ?_; first | (simp; done) | (simp; omega)) | (with_reducible refine SlOf.pre _ _ ?_; first | omega | (simp; omega)) | (refine SlF.self _ _ ?_ ?_; (first | rfl | omega | (simp; done) | (simp; omega)); (exact fun _ => rfl)) | (refine SlF.pre _ _ ?_ ?_; (first | omega | (simp; omega)); (exact fun _ => rfl)) | (refine SlF.same ?_ ?_; (first | rfl | omega | (simp; done) | (simp; omega)); (first | exact fz_self _ _ (fun _ => rfl) | exact fz_pl rfl | (refine Fz.append ?_ ?_ <;> first | exact fz_self _ _ (fun _ => rfl) | exact fz_pl rfl) | (refine Fz.append (Fz.append ?_ ?_) ?_ <;> first | exact fz_self _ _ (fun _ => rfl) | exact fz_pl rfl))) | (simp only [Int.toNat_natCast, Nat.zero_add, Nat.mul_one]; rfl) | ((show @Eq (Option CV) _ _); rfl) | ((fail_if_success (show @Eq (Option _) _ _)); rfl) | ((show @Eq (Option _) _ _); simp only [List.getElem?_cons_zero, List.getElem?_cons_succ]; done) | ((show @Eq (Option _) _ _); simp only [List.getElem?_cons_zero, List.getElem?_cons_succ]; rfl) | with_reducible rfl)); conv => whnf))); exact Done.mk trivial))); conv => whnf)
   | (refine Pick.mk ?_ ?_ ?_; rotate_left; (focus ((simp only [chunks]; rfl))); conv => whnf))
  all_goals
   refine Hand.mk [] ?_
   try (conv => whnf)
   refine CallW.n (s_next hS1 (by omega) 2 (by omega)) ?_
   rintro _ _ ⟨a2, s2, _, rfl, hS2, v2, rfl, rfl, hv2⟩
   try (conv => whnf)
   repeat (first
    | (refine Need.mk ?_ ?_; (focus (((conv => whnf); (repeat (first | (refine Need.mk (by first | rfl | omega | (simp; done)) ?_; conv => whnf) | (refine Pick.mk ?_ ?_ ?_; rotate_left; (focus (first | with_reducible exact xor_u8 _ _ | (with_reducible refine xor_i64 ?_ ?_; all_goals omega) | (with_reducible refine xor_u32 ?_ ?_; all_goals omega) | exact sl_ops _ rfl | assumption | with_reducible exact set_byN _ _ _ _ | with_reducible exact set_byI _ _ _ _ | with_reducible exact set_inN _ _ _ _ | with_reducible exact set_inI _ _ _ _ | with_reducible exact set_stN _ _ _ _ | with_reducible exact set_tsN _ _ _ _ | with_reducible exact set_tsI _ _ _ _ | with_reducible exact set_boN _ _ _ _ | with_reducible exact set_boI _ _ _ _ | (with_reducible refine get_mapN _ _ _ ?_; first | omega | (simp; omega)) | (with_reducible refine get_mapI _ _ _ ?_ ?_ <;> first | omega | (simp; omega)) | exact bs_beq _ _ | exact bs_less _ _ | exact bs_leq _ _ | with_reducible exact bs_app _ _ | (refine bs_get _ _ ?_; omega) | (refine bs_int _ _ ?_ ?_ <;> omega) | with_reducible exact sl_map0 _ _ _ | with_reducible exact sl_mapN _ _ _ | with_reducible exact sl_map _ _ _ _ | exact bs_extract0 _ _ | exact bs_extractN _ _ | exact bs_extract _ _ _ | (refine bnd_id ?_; omega) | (refine bnd_sub ?_ ?_ <;> omega) | (refine bnd_add ?_; omega) | (refine bnd_subN ?_ ?_ <;> omega) | (refine bnd_int ?_ ?_ <;> omega) | ((show @Eq Nat (_ + Int.toNat _ * _) _); simp only [Int.toNat_natCast, Nat.zero_add, Nat.mul_one]; rfl) | ((show @Eq (List _) (List.set [_] _ _) _); simp only [List.set_cons_zero]; rfl) | exact List.length_map _ | exact size_bs _ | (simp only [List.length_map, List.length_append, List.length_cons, List.length_nil, List.length_replicate, Nat.zero_add]; rfl) | with_reducible exact List.nil_append _ | with_reducible exact map_app _ _ _ | exact map_snoc byD _ _ | exact map_snoc inD _ _ | exact map_snoc stD _ _ | exact map_snoc tsD _ _ | (simp only [chunks]; rfl) | (refine wid ?_ ?_ <;> omega) | exact wby _ | with_reducible exact wby32 _ | with_reducible exact wu32 _ | exact wby64 _ | exact shr8 _ | exact shr16 _ | exact shr24 _ | exact shr32 _ | (refine tmodn ?_; omega) | (refine wdiv ?_ ?_ ?_ <;> omega) | exact wbyte _ | exact natlit _ | exact rep_by _ | exact rep_in _ | exact rep_bo _ | exact rep_st _ | (refine pick_nat _ _ _ ?_; omega) | (refine pick_int _ _ _ ?_ ?_ <;> omega) | (refine SlOf.full ?_; first | (simp; done) | (simp; omega)) | (with_reducible refine SlOf.pre _ _ ?_; first | omega | (simp; omega)) | (refine SlF.self _ _ ?_ ?_; (first | rfl | omega | (simp; done) | (simp; omega)); (exact fun _ => rfl)) | (refine SlF.pre _ _ ?_ ?_; (first | omega | (simp; omega)); (exact fun _ => rfl)) | (refine SlF.same ?_ ?_; (first | rfl | omega | (simp; done) | (simp; omega)); (first | exact fz_self _ _ (fun _ => rfl) | exact fz_pl rfl | (refine Fz.append ?_ ?_ <;> first | exact fz_self _ _ (fun _ => rfl) | exact fz_pl rfl) | (refine Fz.append (Fz.append ?_ ?_) ?_ <;> first | exact fz_self _ _ (fun _ => rfl) | exact fz_pl rfl))) | (simp only [Int.toNat_natCast, Nat.zero_add, Nat.mul_one]; rfl) | ((show @Eq (Option CV) _ _); rfl) | ((fail_if_success (show @Eq (Option _) _ _)); rfl) | ((show @Eq (Option _) _ _); simp only [List.getElem?_cons_zero, List.getElem?_cons_succ]; done) | ((show @Eq (Option _) _ _); simp only [List.getElem?_cons_zero, List.getElem?_cons_succ]; rfl) | with_reducible rfl)); conv => whnf))); exact Done.mk trivial))); conv => whnf)
    | (refine Pick.mk ?_ ?_ ?_; rotate_left; (focus ((refine wid ?_ ?_ <;> omega))); conv => whnf))
  all_goals
   try (conv => whnf)
   repeat' (first
    | (refine Need.ways ?_ ?_ <;> conv => whnf)
    | (refine Need.mk ?_ ?_; (focus (((conv => whnf); (repeat (first | (refine Need.mk (by first | rfl | omega | (simp; done)) ?_; conv => whnf) | (refine Pick.mk ?_ ?_ ?_; rotate_left; (focus (first | with_reducible exact xor_u8 _ _ | (with_reducible refine xor_i64 ?_ ?_; all_goals omega) | (with_reducible refine xor_u32 ?_ ?_; all_goals omega) | exact sl_ops _ rfl | assumption | with_reducible exact set_byN _ _ _ _ | with_reducible exact set_byI _ _ _ _ | with_reducible exact set_inN _ _ _ _ | with_reducible exact set_inI _ _ _ _ | with_reducible exact set_stN _ _ _ _ | with_reducible exact set_tsN _ _ _ _ | with_reducible exact set_tsI _ _ _ _ | with_reducible exact set_boN _ _ _ _ | with_reducible exact set_boI _ _ _ _ | (with_reducible refine get_mapN _ _ _ ?_; first | omega | (simp; omega)) | (with_reducible refine get_mapI _ _ _ ?_ ?_ <;> first | omega | (simp; omega)) | exact bs_beq _ _ | exact bs_less _ _ | exact bs_leq _ _ | with_reducible exact bs_app _ _ | (refine bs_get _ _ ?_; omega) | (refine bs_int _ _ ?_ ?_ <;> omega) | with_reducible exact sl_map0 _ _ _ | with_reducible exact sl_mapN _ _ _ | with_reducible exact sl_map _ _ _ _ | exact bs_extract0 _ _ | exact bs_extractN _ _ | exact bs_extract _ _ _ | (refine bnd_id ?_; omega) | (refine bnd_sub ?_ ?_ <;> omega) | (refine bnd_add ?_; omega) | (refine bnd_subN ?_ ?_ <;> omega) | (refine bnd_int ?_ ?_ <;> omega) | ((show @Eq Nat (_ + Int.toNat _ * _) _); simp only [Int.toNat_natCast, Nat.zero_add, Nat.mul_one]; rfl) | ((show @Eq (List _) (List.set [_] _ _) _); simp only [List.set_cons_zero]; rfl) | exact List.length_map _ | exact size_bs _ | (simp only [List.length_map, List.length_append, List.length_cons, List.length_nil, List.length_replicate, Nat.zero_add]; rfl) | with_reducible exact List.nil_append _ | with_reducible exact map_app _ _ _ | exact map_snoc byD _ _ | exact map_snoc inD _ _ | exact map_snoc stD _ _ | exact map_snoc tsD _ _ | (simp only [chunks]; rfl) | (refine wid ?_ ?_ <;> omega) | exact wby _ | with_reducible exact wby32 _ | with_reducible exact wu32 _ | exact wby64 _ | exact shr8 _ | exact shr16 _ | exact shr24 _ | exact shr32 _ | (refine tmodn ?_; omega) | (refine wdiv ?_ ?_ ?_ <;> omega) | exact wbyte _ | exact natlit _ | exact rep_by _ | exact rep_in _ | exact rep_bo _ | exact rep_st _ | (refine pick_nat _ _ _ ?_; omega) | (refine pick_int _ _ _ ?_ ?_ <;> omega) | (refine SlOf.full ?_; first | (simp; done) | (simp; omega)) | (with_reducible refine SlOf.pre _ _ ?_; first | omega | (simp; omega)) | (refine SlF.self _ _ ?_ ?_; (first | rfl | omega | (simp; done) | (simp; omega)); (exact fun _ => rfl)) | (refine SlF.pre _ _ ?_ ?_; (first | omega | (simp; omega)); (exact fun _ => rfl)) | (refine SlF.same ?_ ?_; (first | rfl | omega | (simp; done) | (simp; omega)); (first | exact fz_self _ _ (fun _ => rfl) | exact fz_pl rfl | (refine Fz.append ?_ ?_ <;> first | exact fz_self _ _ (fun _ => rfl) | exact fz_pl rfl) | (refine Fz.append (Fz.append ?_ ?_) ?_ <;> first | exact fz_self _ _ (fun _ => rfl) | exact fz_pl rfl))) | (simp only [Int.toNat_natCast, Nat.zero_add, Nat.mul_one]; rfl) | ((show @Eq (Option CV) _ _); rfl) | ((fail_if_success (show @Eq (Option _) _ _)); rfl) | ((show @Eq (Option _) _ _); simp only [List.getElem?_cons_zero, List.getElem?_cons_succ]; done) | ((show @Eq (Option _) _ _); simp only [List.getElem?_cons_zero, List.getElem?_cons_succ]; rfl) | with_reducible rfl)); conv => whnf))); exact Done.mk trivial))); conv => whnf)
    | (refine Pick.mk ?_ ?_ ?_; rotate_left; (focus ((simp only [chunks]; rfl))); conv => whnf))
  all_goals
   refine Hand.mk [] ?_
   try (conv => whnf)
   refine CallW.n (s_next hS2 (by omega) 4 (by omega)) ?_
   rintro _ _ ⟨a3, s3, _, rfl, hS3, v3, rfl, rfl, hv3⟩
   try (conv => whnf)
   repeat (refine Need.mk ?_ ?_; (focus (first | omega | ((conv => whnf); (repeat (first | (refine Need.mk (by first | rfl | omega | (simp; done)) ?_; conv => whnf) | (refine Pick.mk ?_ ?_ ?_; rotate_left; (focus (first | with_reducible exact xor_u8 _ _ | (with_reducible refine xor_i64 ?_ ?_; all_goals omega) | (with_reducible refine xor_u32 ?_ ?_; all_goals omega) | exact sl_ops _ rfl | assumption | with_reducible exact set_byN _ _ _ _ | with_reducible exact set_byI _ _ _ _ | with_reducible exact set_inN _ _ _ _ | with_reducible exact set_inI _ _ _ _ | with_reducible exact set_stN _ _ _ _ | with_reducible exact set_tsN _ _ _ _ | with_reducible exact set_tsI _ _ _ _ | with_reducible exact set_boN _ _ _ _ | with_reducible exact set_boI _ _ _ _ | (with_reducible refine get_mapN _ _ _ ?_; first | omega | (simp; omega)) | (with_reducible refine get_mapI _ _ _ ?_ ?_ <;> first | omega | (simp; omega)) | exact bs_beq _ _ | exact bs_less _ _ | exact bs_leq _ _ | with_reducible exact bs_app _ _ | (refine bs_get _ _ ?_; omega) | (refine bs_int _ _ ?_ ?_ <;> omega) | with_reducible exact sl_map0 _ _ _ | with_reducible exact sl_mapN _ _ _ | with_reducible exact sl_map _ _ _ _ | exact bs_extract0 _ _ | exact bs_extractN _ _ | exact bs_extract _ _ _ | (refine bnd_id ?_; omega) | (refine bnd_sub ?_ ?_ <;> omega) | (refine bnd_add ?_; omega) | (refine bnd_subN ?_ ?_ <;> omega) | (refine bnd_int ?_ ?_ <;> omega) | ((show @Eq Nat (_ + Int.toNat _ * _) _); simp only [Int.toNat_natCast, Nat.zero_add, Nat.mul_one]; rfl) | ((show @Eq (List _) (List.set [_] _ _) _); simp only [List.set_cons_zero]; rfl) | exact List.length_map _ | exact size_bs _ | (simp only [List.length_map, List.length_append, List.length_cons, List.length_nil, List.length_replicate, Nat.zero_add]; rfl) | with_reducible exact List.nil_append _ | with_reducible exact map_app _ _ _ | exact map_snoc byD _ _ | exact map_snoc inD _ _ | exact map_snoc stD _ _ | exact map_snoc tsD _ _ | (simp only [chunks]; rfl) | (refine wid ?_ ?_ <;> omega) | exact wby _ | with_reducible exact wby32 _ | with_reducible exact wu32 _ | exact wby64 _ | exact shr8 _ | exact shr16 _ | exact shr24 _ | exact shr32 _ | (refine tmodn ?_; omega) | (refine wdiv ?_ ?_ ?_ <;> omega) | exact wbyte _ | exact natlit _ | exact rep_by _ | exact rep_in _ | exact rep_bo _ | exact rep_st _ | (refine pick_nat _ _ _ ?_; omega) | (refine pick_int _ _ _ ?_ ?_ <;> omega) | (refine SlOf.full ?_; first | (simp; done) | (simp; omega)) | (with_reducible refine SlOf.pre _ _ ?_; first | omega | (simp; omega)) | (refine SlF.self _ _ ?_ ?_; (first | rfl | omega | (simp; done) | (simp; omega)); (exact fun _ => rfl)) | (refine SlF.pre _ _ ?_ ?_; (first | omega | (simp; omega)); (exact fun _ => rfl)) | (refine SlF.same ?_ ?_; (first | rfl | omega | (simp; done) | (simp; omega)); (first | exact fz_self _ _ (fun _ => rfl) | exact fz_pl rfl | (refine Fz.append ?_ ?_ <;> first | exact fz_self _ _ (fun _ => rfl) | exact fz_pl rfl) | (refine Fz.append (Fz.append ?_ ?_) ?_ <;> first | exact fz_self _ _ (fun _ => rfl) | exact fz_pl rfl))) | (simp only [Int.toNat_natCast, Nat.zero_add, Nat.mul_one]; rfl) | ((show @Eq (Option CV) _ _); rfl) | ((fail_if_success (show @Eq (Option _) _ _)); rfl) | ((show @Eq (Option _) _ _); simp only [List.getElem?_cons_zero, List.getElem?_cons_succ]; done) | ((show @Eq (Option _) _ _); simp only [List.getElem?_cons_zero, List.getElem?_cons_succ]; rfl) | with_reducible rfl)); conv => whnf))); exact Done.mk trivial))); conv => whnf)
  all_goals
   try (conv => whnf)
   repeat' (first
    | (refine Need.ways ?_ ?_ <;> conv => whnf)
    | (refine pickV 5 rfl (by rw [addN_eq]; show _ < 4; omega) fun x hxl hx => ?_; conv => whnf)
    | (refine Need.mk ?_ ?_; (focus (first | omega | ((conv => whnf); (repeat (first | (refine Need.mk (by first | rfl | omega | (simp; done)) ?_; conv => whnf) | (refine Pick.mk ?_ ?_ ?_; rotate_left; (focus (first | with_reducible exact xor_u8 _ _ | (with_reducible refine xor_i64 ?_ ?_; all_goals omega) | (with_reducible refine xor_u32 ?_ ?_; all_goals omega) | exact sl_ops _ rfl | assumption | with_reducible exact set_byN _ _ _ _ | with_reducible exact set_byI _ _ _ _ | with_reducible exact set_inN _ _ _ _ | with_reducible exact set_inI _ _ _ _ | with_reducible exact set_stN _ _ _ _ | with_reducible exact set_tsN _ _ _ _ | with_reducible exact set_tsI _ _ _ _ | with_reducible exact set_boN _ _ _ _ | with_reducible exact set_boI _ _ _ _ | (with_reducible refine get_mapN _ _ _ ?_; first | omega | (simp; omega)) | (with_reducible refine get_mapI _ _ _ ?_ ?_ <;> first | omega | (simp; omega)) | exact bs_beq _ _ | exact bs_less _ _ | exact bs_leq _ _ | with_reducible exact bs_app _ _ | (refine bs_get _ _ ?_; omega) | (refine bs_int _ _ ?_ ?_ <;> omega) | with_reducible exact sl_map0 _ _ _ | with_reducible exact sl_mapN _ _ _ | with_reducible exact sl_map _ _ _ _ | exact bs_extract0 _ _ | exact bs_extractN _ _ | exact bs_extract _ _ _ | (refine bnd_id ?_; omega) | (refine bnd_sub ?_ ?_ <;> omega) | (refine bnd_add ?_; omega) | (refine bnd_subN ?_ ?_ <;> omega) | (refine bnd_int ?_ ?_ <;> omega) | ((show @Eq Nat (_ + Int.toNat _ * _) _); simp only [Int.toNat_natCast, Nat.zero_add, Nat.mul_one]; rfl) | ((show @Eq (List _) (List.set [_] _ _) _); simp only [List.set_cons_zero]; rfl) | exact List.length_map _ | exact size_bs _ | (simp only [List.length_map, List.length_append, List.length_cons, List.length_nil, List.length_replicate, Nat.zero_add]; rfl) | with_reducible exact List.nil_append _ | with_reducible exact map_app _ _ _ | exact map_snoc byD _ _ | exact map_snoc inD _ _ | exact map_snoc stD _ _ | exact map_snoc tsD _ _ | (simp only [chunks]; rfl) | (refine wid ?_ ?_ <;> omega) | exact wby _ | with_reducible exact wby32 _ | with_reducible exact wu32 _ | exact wby64 _ | exact shr8 _ | exact shr16 _ | exact shr24 _ | exact shr32 _ | (refine tmodn ?_; omega) | (refine wdiv ?_ ?_ ?_ <;> omega) | exact wbyte _ | exact natlit _ | exact rep_by _ | exact rep_in _ | exact rep_bo _ | exact rep_st _ | (refine pick_nat _ _ _ ?_; omega) | (refine pick_int _ _ _ ?_ ?_ <;> omega) | (refine SlOf.full ?_; first | (simp; done) | (simp; omega)) | (with_reducible refine SlOf.pre _ _ ?_; first | omega | (simp; omega)) | (refine SlF.self _ _ ?_ ?_; (first | rfl | omega | (simp; done) | (simp; omega)); (exact fun _ => rfl)) | (refine SlF.pre _ _ ?_ ?_; (first | omega | (simp; omega)); (exact fun _ => rfl)) | (refine SlF.same ?_ ?_; (first | rfl | omega | (simp; done) | (simp; omega)); (first | exact fz_self _ _ (fun _ => rfl) | exact fz_pl rfl | (refine Fz.append ?_ ?_ <;> first | exact fz_self _ _ (fun _ => rfl) | exact fz_pl rfl) | (refine Fz.append (Fz.append ?_ ?_) ?_ <;> first | exact fz_self _ _ (fun _ => rfl) | exact fz_pl rfl))) | (simp only [Int.toNat_natCast, Nat.zero_add, Nat.mul_one]; rfl) | ((show @Eq (Option CV) _ _); rfl) | ((fail_if_success (show @Eq (Option _) _ _)); rfl) | ((show @Eq (Option _) _ _); simp only [List.getElem?_cons_zero, List.getElem?_cons_succ]; done) | ((show @Eq (Option _) _ _); simp only [List.getElem?_cons_zero, List.getElem?_cons_succ]; rfl) | with_reducible rfl)); conv => whnf))); exact Done.mk trivial))); conv => whnf)
    | (refine Pick.mk ?_ ?_ ?_; rotate_left; (focus ((simp only [chunks]; rfl))); conv => whnf))
  all_goals
   refine Hand.mk [] ?_
   try (conv => whnf)
   refine CallW.n (s_word hS3 (by omega)) ?_
   rintro _ _ ⟨a4, s4, _, rfl, hS4, v4, rfl, rfl, hv4⟩
   try (conv => whnf)
   repeat (first
    | (refine Need.mk ?_ ?_; (focus (first | omega | ((conv => whnf); (repeat (first | (refine Need.mk (by first | rfl | omega | (simp; done)) ?_; conv => whnf) | (refine Pick.mk ?_ ?_ ?_; rotate_left; (focus (first | with_reducible exact xor_u8 _ _ | (with_reducible refine xor_i64 ?_ ?_; all_goals omega) | (with_reducible refine xor_u32 ?_ ?_; all_goals omega) | exact sl_ops _ rfl | assumption | with_reducible exact set_byN _ _ _ _ | with_reducible exact set_byI _ _ _ _ | with_reducible exact set_inN _ _ _ _ | with_reducible exact set_inI _ _ _ _ | with_reducible exact set_stN _ _ _ _ | with_reducible exact set_tsN _ _ _ _ | with_reducible exact set_tsI _ _ _ _ | with_reducible exact set_boN _ _ _ _ | with_reducible exact set_boI _ _ _ _ | (with_reducible refine get_mapN _ _ _ ?_; first | omega | (simp; omega)) | (with_reducible refine get_mapI _ _ _ ?_ ?_ <;> first | omega | (simp; omega)) | exact bs_beq _ _ | exact bs_less _ _ | exact bs_leq _ _ | with_reducible exact bs_app _ _ | (refine bs_get _ _ ?_; omega) | (refine bs_int _ _ ?_ ?_ <;> omega) | with_reducible exact sl_map0 _ _ _ | with_reducible exact sl_mapN _ _ _ | with_reducible exact sl_map _ _ _ _ | exact bs_extract0 _ _ | exact bs_extractN _ _ | exact bs_extract _ _ _ | (refine bnd_id ?_; omega) | (refine bnd_sub ?_ ?_ <;> omega) | (refine bnd_add ?_; omega) | (refine bnd_subN ?_ ?_ <;> omega) | (refine bnd_int ?_ ?_ <;> omega) | ((show @Eq Nat (_ + Int.toNat _ * _) _); simp only [Int.toNat_natCast, Nat.zero_add, Nat.mul_one]; rfl) | ((show @Eq (List _) (List.set [_] _ _) _); simp only [List.set_cons_zero]; rfl) | exact List.length_map _ | exact size_bs _ | (simp only [List.length_map, List.length_append, List.length_cons, List.length_nil, List.length_replicate, Nat.zero_add]; rfl) | with_reducible exact List.nil_append _ | with_reducible exact map_app _ _ _ | exact map_snoc byD _ _ | exact map_snoc inD _ _ | exact map_snoc stD _ _ | exact map_snoc tsD _ _ | (simp only [chunks]; rfl) | (refine wid ?_ ?_ <;> omega) | exact wby _ | with_reducible exact wby32 _ | with_reducible exact wu32 _ | exact wby64 _ | exact shr8 _ | exact shr16 _ | exact shr24 _ | exact shr32 _ | (refine tmodn ?_; omega) | (refine wdiv ?_ ?_ ?_ <;> omega) | exact wbyte _ | exact natlit _ | exact rep_by _ | exact rep_in _ | exact rep_bo _ | exact rep_st _ | (refine pick_nat _ _ _ ?_; omega) | (refine pick_int _ _ _ ?_ ?_ <;> omega) | (refine SlOf.full ?_; first | (simp; done) | (simp; omega)) | (with_reducible refine SlOf.pre _ _ ?_; first | omega | (simp; omega)) | (refine SlF.self _ _ ?_ ?_; (first | rfl | omega | (simp; done) | (simp; omega)); (exact fun _ => rfl)) | (refine SlF.pre _ _ ?_ ?_; (first | omega | (simp; omega)); (exact fun _ => rfl)) | (refine SlF.same ?_ ?_; (first | rfl | omega | (simp; done) | (simp; omega)); (first | exact fz_self _ _ (fun _ => rfl) | exact fz_pl rfl | (refine Fz.append ?_ ?_ <;> first | exact fz_self _ _ (fun _ => rfl) | exact fz_pl rfl) | (refine Fz.append (Fz.append ?_ ?_) ?_ <;> first | exact fz_self _ _ (fun _ => rfl) | exact fz_pl rfl))) | (simp only [Int.toNat_natCast, Nat.zero_add, Nat.mul_one]; rfl) | ((show @Eq (Option CV) _ _); rfl) | ((fail_if_success (show @Eq (Option _) _ _)); rfl) | ((show @Eq (Option _) _ _); simp only [List.getElem?_cons_zero, List.getElem?_cons_succ]; done) | ((show @Eq (Option _) _ _); simp only [List.getElem?_cons_zero, List.getElem?_cons_succ]; rfl) | with_reducible rfl)); conv => whnf))); exact Done.mk trivial))); conv => whnf)
    | (refine Pick.mk ?_ ?_ ?_; rotate_left; (focus ((simp only [chunks]; rfl))); conv => whnf))
  all_goals
   try (conv => whnf)
   repeat' (first
    | (refine Need.ways ?_ ?_ <;> conv => whnf)
    | (refine pickV 5 rfl (by rw [addN_eq]; show _ < 4; omega) fun x hxl hx => ?_; conv => whnf))
  all_goals
   refine Hand.mk [] ?_
   try (conv => whnf)
   refine CallW.k (s_l08Make l act ⟨0, 0, 0, [], 1, 1 + v2, 0, 0, 0, 0, x, v4⟩ hl hw2 ha (by simp only; omega)) ?_
   try (conv => whnf)
  all_goals
   refine Out.mk false [0, 1, 2, 3, 4] [] ?_
   try (conv => whnf)
   exact ⟨_, _, [], rfl, hS4.mono (by omega), _, rfl, rfl, makeO_w hw ha h0 rfl (by first | (simp; done) | (dsimp only; omega)) (by first | (simp; done) | (dsimp only; omega)), rfl⟩
 ·try (conv => whnf)
  repeat' (first
   | (refine Need.ways ?_ ?_ <;> conv => whnf)
   | (refine Need.mk ?_ ?_; (focus (((conv => whnf); (repeat (first | (refine Need.mk (by first | rfl | omega | (simp; done)) ?_; conv => whnf) | (refine Pick.mk ?_ ?_ ?_; rotate_left; (focus (first | with_reducible exact xor_u8 _ _ | (with_reducible refine xor_i64 ?_ ?_; all_goals omega) | (with_reducible refine xor_u32 ?_ ?_; all_goals omega) | exact sl_ops _ rfl | assumption | with_reducible exact set_byN _ _ _ _ | with_reducible exact set_byI _ _ _ _ | with_reducible exact set_inN _ _ _ _ | with_reducible exact set_inI _ _ _ _ | with_reducible exact set_stN _ _ _ _ | with_reducible exact set_tsN _ _ _ _ | with_reducible exact set_tsI _ _ _ _ | with_reducible exact set_boN _ _ _ _ | with_reducible exact set_boI _ _ _ _ | (with_reducible refine get_mapN _ _ _ ?_; first | omega | (simp; omega)) | (with_reducible refine get_mapI _ _ _ ?_ ?_ <;> first | omega | (simp; omega)) | exact bs_beq _ _ | exact bs_less _ _ | exact bs_leq _ _ | with_reducible exact bs_app _ _ | (refine bs_get _ _ ?_; omega) | (refine bs_int _ _ ?_ ?_ <;> omega) | with_reducible exact sl_map0 _ _ _ | with_reducible exact sl_mapN _ _ _ | with_reducible exact sl_map _ _ _ _ | exact bs_extract0 _ _ | exact bs_extractN _ _ | exact bs_extract _ _ _ | (refine bnd_id ?_; omega) | (refine bnd_sub ?_ ?_ <;> omega) | (refine bnd_add ?_; omega) | (refine bnd_subN ?_ ?_ <;> omega) | (refine bnd_int ?_ ?_ <;> omega) | ((show @Eq Nat (_ + Int.toNat _ * _) _); simp only [Int.toNat_natCast, Nat.zero_add, Nat.mul_one]; rfl) | ((show @Eq (List _) (List.set [_] _ _) _); simp only [List.set_cons_zero]; rfl) | exact List.length_map _ | exact size_bs _ | (simp only [List.length_map, List.length_append, List.length_cons, List.length_nil, List.length_replicate, Nat.zero_add]; rfl) | with_reducible exact List.nil_append _ | with_reducible exact map_app _ _ _ | exact map_snoc byD _ _ | exact map_snoc inD _ _ | exact map_snoc stD _ _ | exact map_snoc tsD _ _ | (simp only [chunks]; rfl) | (refine wid ?_ ?_ <;> omega) | exact wby _ | with_reducible exact wby32 _ | with_reducible exact wu32 _ | exact wby64 _ | exact shr8 _ | exact shr16 _ | exact shr24 _ | exact shr32 _ | (refine tmodn ?_; omega) | (refine wdiv ?_ ?_ ?_ <;> omega) | exact wbyte _ | exact natlit _ | exact rep_by _ | exact rep_in _ | exact rep_bo _ | exact rep_st _ | (refine pick_nat _ _ _ ?_; omega) | (refine pick_int _ _ _ ?_ ?_ <;> omega) | (refine SlOf.full ?_; first | (simp; done) | (simp; omega)) | (with_reducible refine SlOf.pre _ _ ?_; first | omega | (simp; omega)) | (refine SlF.self _ _ ?_ ?_; (first | rfl | omega | (simp; done) | (simp; omega)); (exact fun _ => rfl)) | (refine SlF.pre _ _ ?_ ?_; (first | omega | (simp; omega)); (exact fun _ => rfl)) | (refine SlF.same ?_ ?_; (first | rfl | omega | (simp; done) | (simp; omega)); (first | exact fz_self _ _ (fun _ => rfl) | exact fz_pl rfl | (refine Fz.append ?_ ?_ <;> first | exact fz_self _ _ (fun _ => rfl) | exact fz_pl rfl) | (refine Fz.append (Fz.append ?_ ?_) ?_ <;> first | exact fz_self _ _ (fun _ => rfl) | exact fz_pl rfl))) | (simp only [Int.toNat_natCast, Nat.zero_add, Nat.mul_one]; rfl) | ((show @Eq (Option CV) _ _); rfl) | ((fail_if_success (show @Eq (Option _) _ _)); rfl) | ((show @Eq (Option _) _ _); simp only [List.getElem?_cons_zero, List.getElem?_cons_succ]; done) | ((show @Eq (Option _) _ _); simp only [List.getElem?_cons_zero, List.getElem?_cons_succ]; rfl) | with_reducible rfl)); conv => whnf))); exact Done.mk trivial))); conv => whnf)
   | (refine Pick.mk ?_ ?_ ?_; rotate_left; (focus ((simp only [chunks]; rfl))); conv => whnf))
  all_goals
   refine Hand.mk [] ?_
   try (conv => whnf)
   refine CallW.n (s_next hS1 (by omega) 2 (by omega)) ?_
   rintro _ _ ⟨a2, s2, _, rfl, hS2, v2, rfl, rfl, hv2⟩
   try (conv => whnf)
   repeat (first
    | (refine Need.mk ?_ ?_; (focus (((conv => whnf); (repeat (first | (refine Need.mk (by first | rfl | omega | (simp; done)) ?_; conv => whnf) | (refine Pick.mk ?_ ?_ ?_; rotate_left; (focus (first | with_reducible exact xor_u8 _ _ | (with_reducible refine xor_i64 ?_ ?_; all_goals omega) | (with_reducible refine xor_u32 ?_ ?_; all_goals omega) | exact sl_ops _ rfl | assumption | with_reducible exact set_byN _ _ _ _ | with_reducible exact set_byI _ _ _ _ | with_reducible exact set_inN _ _ _ _ | with_reducible exact set_inI _ _ _ _ | with_reducible exact set_stN _ _ _ _ | with_reducible exact set_tsN _ _ _ _ | with_reducible exact set_tsI _ _ _ _ | with_reducible exact set_boN _ _ _ _ | with_reducible exact set_boI _ _ _ _ | (with_reducible refine get_mapN _ _ _ ?_; first | omega | (simp; omega)) | (with_reducible refine get_mapI _ _ _ ?_ ?_ <;> first | omega | (simp; omega)) | exact bs_beq _ _ | exact bs_less _ _ | exact bs_leq _ _ | with_reducible exact bs_app _ _ | (refine bs_get _ _ ?_; omega) | (refine bs_int _ _ ?_ ?_ <;> omega) | with_reducible exact sl_map0 _ _ _ | with_reducible exact sl_mapN _ _ _ | with_reducible exact sl_map _ _ _ _ | exact bs_extract0 _ _ | exact bs_extractN _ _ | exact bs_extract _ _ _ | (refine bnd_id ?_; omega) | (refine bnd_sub ?_ ?_ <;> omega) | (refine bnd_add ?_; omega) | (refine bnd_subN ?_ ?_ <;> omega) | (refine bnd_int ?_ ?_ <;> omega) | ((show @Eq Nat (_ + Int.toNat _ * _) _); simp only [Int.toNat_natCast, Nat.zero_add, Nat.mul_one]; rfl) | ((show @Eq (List _) (List.set [_] _ _) _); simp only [List.set_cons_zero]; rfl) | exact List.length_map _ | exact size_bs _ | (simp only [List.length_map, List.length_append, List.length_cons, List.length_nil, List.length_replicate, Nat.zero_add]; rfl) | with_reducible exact List.nil_append _ | with_reducible exact map_app _ _ _ | exact map_snoc byD _ _ | exact map_snoc inD _ _ | exact map_snoc stD _ _ | exact map_snoc tsD _ _ | (simp only [chunks]; rfl) | (refine wid ?_ ?_ <;> omega) | exact wby _ | with_reducible exact wby32 _ | with_reducible exact wu32 _ | exact wby64 _ | exact shr8 _ | exact shr16 _ | exact shr24 _ | exact shr32 _ | (refine tmodn ?_; omega) | (refine wdiv ?_ ?_ ?_ <;> omega) | exact wbyte _ | exact natlit _ | exact rep_by _ | exact rep_in _ | exact rep_bo _ | exact rep_st _ | (refine pick_nat _ _ _ ?_; omega) | (refine pick_int _ _ _ ?_ ?_ <;> omega) | (refine SlOf.full ?_; first | (simp; done) | (simp; omega)) | (with_reducible refine SlOf.pre _ _ ?_; first | omega | (simp; omega)) | (refine SlF.self _ _ ?_ ?_; (first | rfl | omega | (simp; done) | (simp; omega)); (exact fun _ => rfl)) | (refine SlF.pre _ _ ?_ ?_; (first | omega | (simp; omega)); (exact fun _ => rfl)) | (refine SlF.same ?_ ?_; (first | rfl | omega | (simp; done) | (simp; omega)); (first | exact fz_self _ _ (fun _ => rfl) | exact fz_pl rfl | (refine Fz.append ?_ ?_ <;> first | exact fz_self _ _ (fun _ => rfl) | exact fz_pl rfl) | (refine Fz.append (Fz.append ?_ ?_) ?_ <;> first | exact fz_self _ _ (fun _ => rfl) | exact fz_pl rfl))) | (simp only [Int.toNat_natCast, Nat.zero_add, Nat.mul_one]; rfl) | ((show @Eq (Option CV) _ _); rfl) | ((fail_if_success (show @Eq (Option _) _ _)); rfl) | ((show @Eq (Option _) _ _); simp only [List.getElem?_cons_zero, List.getElem?_cons_succ]; done) | ((show @Eq (Option _) _ _); simp only [List.getElem?_cons_zero, List.getElem?_cons_succ]; rfl) | with_reducible rfl)); conv => whnf))); exact Done.mk trivial))); conv => whnf)
    | (refine Pick.mk ?_ ?_ ?_; rotate_left; (focus ((refine wid ?_ ?_ <;> omega))); conv => whnf))
  all_goals
   try (conv => whnf)
   repeat' (first
    | (refine Need.ways ?_ ?_ <;> conv => whnf)
    | (refine Need.mk ?_ ?_; (focus (((conv => whnf); (repeat (first | (refine Need.mk (by first | rfl | omega | (simp; done)) ?_; conv => whnf) | (refine Pick.mk ?_ ?_ ?_; rotate_left; (focus (first | with_reducible exact xor_u8 _ _ | (with_reducible refine xor_i64 ?_ ?_; all_goals omega) | (with_reducible refine xor_u32 ?_ ?_; all_goals omega) | exact sl_ops _ rfl | assumption | with_reducible exact set_byN _ _ _ _ | with_reducible exact set_byI _ _ _ _ | with_reducible exact set_inN _ _ _ _ | with_reducible exact set_inI _ _ _ _ | with_reducible exact set_stN _ _ _ _ | with_reducible exact set_tsN _ _ _ _ | with_reducible exact set_tsI _ _ _ _ | with_reducible exact set_boN _ _ _ _ | with_reducible exact set_boI _ _ _ _ | (with_reducible refine get_mapN _ _ _ ?_; first | omega | (simp; omega)) | (with_reducible refine get_mapI _ _ _ ?_ ?_ <;> first | omega | (simp; omega)) | exact bs_beq _ _ | exact bs_less _ _ | exact bs_leq _ _ | with_reducible exact bs_app _ _ | (refine bs_get _ _ ?_; omega) | (refine bs_int _ _ ?_ ?_ <;> omega) | with_reducible exact sl_map0 _ _ _ | with_reducible exact sl_mapN _ _ _ | with_reducible exact sl_map _ _ _ _ | exact bs_extract0 _ _ | exact bs_extractN _ _ | exact bs_extract _ _ _ | (refine bnd_id ?_; omega) | (refine bnd_sub ?_ ?_ <;> omega) | (refine bnd_add ?_; omega) | (refine bnd_subN ?_ ?_ <;> omega) | (refine bnd_int ?_ ?_ <;> omega) | ((show @Eq Nat (_ + Int.toNat _ * _) _); simp only [Int.toNat_natCast, Nat.zero_add, Nat.mul_one]; rfl) | ((show @Eq (List _) (List.set [_] _ _) _); simp only [List.set_cons_zero]; rfl) | exact List.length_map _ | exact size_bs _ | (simp only [List.length_map, List.length_append, List.length_cons, List.length_nil, List.length_replicate, Nat.zero_add]; rfl) | with_reducible exact List.nil_append _ | with_reducible exact map_app _ _ _ | exact map_snoc byD _ _ | exact map_snoc inD _ _ | exact map_snoc stD _ _ | exact map_snoc tsD _ _ | (simp only [chunks]; rfl) | (refine wid ?_ ?_ <;> omega) | exact wby _ | with_reducible exact wby32 _ | with_reducible exact wu32 _ | exact wby64 _ | exact shr8 _ | exact shr16 _ | exact shr24 _ | exact shr32 _ | (refine tmodn ?_; omega) | (refine wdiv ?_ ?_ ?_ <;> omega) | exact wbyte _ | exact natlit _ | exact rep_by _ | exact rep_in _ | exact rep_bo _ | exact rep_st _ | (refine pick_nat _ _ _ ?_; omega) | (refine pick_int _ _ _ ?_ ?_ <;> omega) | (refine SlOf.full ?_; first | (simp; done) | (simp; omega)) | (with_reducible refine SlOf.pre _ _ ?_; first | omega | (simp; omega)) | (refine SlF.self _ _ ?_ ?_; (first | rfl | omega | (simp; done) | (simp; omega)); (exact fun _ => rfl)) | (refine SlF.pre _ _ ?_ ?_; (first | omega | (simp; omega)); (exact fun _ => rfl)) | (refine SlF.same ?_ ?_; (first | rfl | omega | (simp; done) | (simp; omega)); (first | exact fz_self _ _ (fun _ => rfl) | exact fz_pl rfl | (refine Fz.append ?_ ?_ <;> first | exact fz_self _ _ (fun _ => rfl) | exact fz_pl rfl) | (refine Fz.append (Fz.append ?_ ?_) ?_ <;> first | exact fz_self _ _ (fun _ => rfl) | exact fz_pl rfl))) | (simp only [Int.toNat_natCast, Nat.zero_add, Nat.mul_one]; rfl) | ((show @Eq (Option CV) _ _); rfl) | ((fail_if_success (show @Eq (Option _) _ _)); rfl) | ((show @Eq (Option _) _ _); simp only [List.getElem?_cons_zero, List.getElem?_cons_succ]; done) | ((show @Eq (Option _) _ _); simp only [List.getElem?_cons_zero, List.getElem?_cons_succ]; rfl) | with_reducible rfl)); conv => whnf))); exact Done.mk trivial))); conv => whnf)
    | (refine Pick.mk ?_ ?_ ?_; rotate_left; (focus ((simp only [chunks]; rfl))); conv => whnf))
  all_goals
   refine Hand.mk [] ?_
   try (conv => whnf)
   refine CallW.n (s_next hS2 (by omega) 4 (by omega)) ?_
   rintro _ _ ⟨a3, s3, _, rfl, hS3, v3, rfl, rfl, hv3⟩
   try (conv => whnf)
   repeat (refine Need.mk ?_ ?_; (focus (first | omega | ((conv => whnf); (repeat (first | (refine Need.mk (by first | rfl | omega | (simp; done)) ?_; conv => whnf) | (refine Pick.mk ?_ ?_ ?_; rotate_left; (focus (first | with_reducible exact xor_u8 _ _ | (with_reducible refine xor_i64 ?_ ?_; all_goals omega) | (with_reducible refine xor_u32 ?_ ?_; all_goals omega) | exact sl_ops _ rfl | assumption | with_reducible exact set_byN _ _ _ _ | with_reducible exact set_byI _ _ _ _ | with_reducible exact set_inN _ _ _ _ | with_reducible exact set_inI _ _ _ _ | with_reducible exact set_stN _ _ _ _ | with_reducible exact set_tsN _ _ _ _ | with_reducible exact set_tsI _ _ _ _ | with_reducible exact set_boN _ _ _ _ | with_reducible exact set_boI _ _ _ _ | (with_reducible refine get_mapN _ _ _ ?_; first | omega | (simp; omega)) | (with_reducible refine get_mapI _ _ _ ?_ ?_ <;> first | omega | (simp; omega)) | exact bs_beq _ _ | exact bs_less _ _ | exact bs_leq _ _ | with_reducible exact bs_app _ _ | (refine bs_get _ _ ?_; omega) | (refine bs_int _ _ ?_ ?_ <;> omega) | with_reducible exact sl_map0 _ _ _ | with_reducible exact sl_mapN _ _ _ | with_reducible exact sl_map _ _ _ _ | exact bs_extract0 _ _ | exact bs_extractN _ _ | exact bs_extract _ _ _ | (refine bnd_id ?_; omega) | (refine bnd_sub ?_ ?_ <;> omega) | (refine bnd_add ?_; omega) | (refine bnd_subN ?_ ?_ <;> omega) | (refine bnd_int ?_ ?_ <;> omega) | ((show @Eq Nat (_ + Int.toNat _ * _) _); simp only [Int.toNat_natCast, Nat.zero_add, Nat.mul_one]; rfl) | ((show @Eq (List _) (List.set [_] _ _) _); simp only [List.set_cons_zero]; rfl) | exact List.length_map _ | exact size_bs _ | (simp only [List.length_map, List.length_append, List.length_cons, List.length_nil, List.length_replicate, Nat.zero_add]; rfl) | with_reducible exact List.nil_append _ | with_reducible exact map_app _ _ _ | exact map_snoc byD _ _ | exact map_snoc inD _ _ | exact map_snoc stD _ _ | exact map_snoc tsD _ _ | (simp only [chunks]; rfl) | (refine wid ?_ ?_ <;> omega) | exact wby _ | with_reducible exact wby32 _ | with_reducible exact wu32 _ | exact wby64 _ | exact shr8 _ | exact shr16 _ | exact shr24 _ | exact shr32 _ | (refine tmodn ?_; omega) | (refine wdiv ?_ ?_ ?_ <;> omega) | exact wbyte _ | exact natlit _ | exact rep_by _ | exact rep_in _ | exact rep_bo _ | exact rep_st _ | (refine pick_nat _ _ _ ?_; omega) | (refine pick_int _ _ _ ?_ ?_ <;> omega) | (refine SlOf.full ?_; first | (simp; done) | (simp; omega)) | (with_reducible refine SlOf.pre _ _ ?_; first | omega | (simp; omega)) | (refine SlF.self _ _ ?_ ?_; (first | rfl | omega | (simp; done) | (simp; omega)); (exact fun _ => rfl)) | (refine SlF.pre _ _ ?_ ?_; (first | omega | (simp; omega)); (exact fun _ => rfl)) | (refine SlF.same ?_ ?_; (first | rfl | omega | (simp; done) | (simp; omega)); (first | exact fz_self _ _ (fun _ => rfl) | exact fz_pl rfl | (refine Fz.append ?_ ?_ <;> first | exact fz_self _ _ (fun _ => rfl) | exact fz_pl rfl) | (refine Fz.append (Fz.append ?_ ?_) ?_ <;> first | exact fz_self _ _ (fun _ => rfl) | exact fz_pl rfl))) | (simp only [Int.toNat_natCast, Nat.zero_add, Nat.mul_one]; rfl) | ((show @Eq (Option CV) _ _); rfl) | ((fail_if_success (show @Eq (Option _) _ _)); rfl) | ((show @Eq (Option _) _ _); simp only [List.getElem?_cons_zero, List.getElem?_cons_succ]; done) | ((show @Eq (Option _) _ _); simp only [List.getElem?_cons_zero, List.getElem?_cons_succ]; rfl) | with_reducible rfl)); conv => whnf))); exact Done.mk trivial))); conv => whnf)
  all_goals
   try (conv => whnf)
   repeat' (first
    | (refine Need.ways ?_ ?_ <;> conv => whnf)
    | (refine pickV 5 rfl (by rw [addN_eq]; show _ < 4; omega) fun x hxl hx => ?_; conv => whnf)
    | (refine Need.mk ?_ ?_; (focus (first | omega | ((conv => whnf); (repeat (first | (refine Need.mk (by first | rfl | omega | (simp; done)) ?_; conv => whnf) | (refine Pick.mk ?_ ?_ ?_; rotate_left; (focus (first | with_reducible exact xor_u8 _ _ | (with_reducible refine xor_i64 ?_ ?_; all_goals omega) | (with_reducible refine xor_u32 ?_ ?_; all_goals omega) | exact sl_ops _ rfl | assumption | with_reducible exact set_byN _ _ _ _ | with_reducible exact set_byI _ _ _ _ | with_reducible exact set_inN _ _ _ _ | with_reducible exact set_inI _ _ _ _ | with_reducible exact set_stN _ _ _ _ | with_reducible exact set_tsN _ _ _ _ | with_reducible exact set_tsI _ _ _ _ | with_reducible exact set_boN _ _ _ _ | with_reducible exact set_boI _ _ _ _ | (with_reducible refine get_mapN _ _ _ ?_; first | omega | (simp; omega)) | (with_reducible refine get_mapI _ _ _ ?_ ?_ <;> first | omega | (simp; omega)) | exact bs_beq _ _ | exact bs_less _ _ | exact bs_leq _ _ | with_reducible exact bs_app _ _ | (refine bs_get _ _ ?_; omega) | (refine bs_int _ _ ?_ ?_ <;> omega) | with_reducible exact sl_map0 _ _ _ | with_reducible exact sl_mapN _ _ _ | with_reducible exact sl_map _ _ _ _ | exact bs_extract0 _ _ | exact bs_extractN _ _ | exact bs_extract _ _ _ | (refine bnd_id ?_; omega) | (refine bnd_sub ?_ ?_ <;> omega) | (refine bnd_add ?_; omega) | (refine bnd_subN ?_ ?_ <;> omega) | (refine bnd_int ?_ ?_ <;> omega) | ((show @Eq Nat (_ + Int.toNat _ * _) _); simp only [Int.toNat_natCast, Nat.zero_add, Nat.mul_one]; rfl) | ((show @Eq (List _) (List.set [_] _ _) _); simp only [List.set_cons_zero]; rfl) | exact List.length_map _ | exact size_bs _ | (simp only [List.length_map, List.length_append, List.length_cons, List.length_nil, List.length_replicate, Nat.zero_add]; rfl) | with_reducible exact List.nil_append _ | with_reducible exact map_app _ _ _ | exact map_snoc byD _ _ | exact map_snoc inD _ _ | exact map_snoc stD _ _ | exact map_snoc tsD _ _ | (simp only [chunks]; rfl) | (refine wid ?_ ?_ <;> omega) | exact wby _ | with_reducible exact wby32 _ | with_reducible exact wu32 _ | exact wby64 _ | exact shr8 _ | exact shr16 _ | exact shr24 _ | exact shr32 _ | (refine tmodn ?_; omega) | (refine wdiv ?_ ?_ ?_ <;> omega) | exact wbyte _ | exact natlit _ | exact rep_by _ | exact rep_in _ | exact rep_bo _ | exact rep_st _ | (refine pick_nat _ _ _ ?_; omega) | (refine pick_int _ _ _ ?_ ?_ <;> omega) | (refine SlOf.full ?_; first | (simp; done) | (simp; omega)) | (with_reducible refine SlOf.pre _ _ ?_; first | omega | (simp; omega)) | (refine SlF.self _ _ ?_ ?_; (first | rfl | omega | (simp; done) | (simp; omega)); (exact fun _ => rfl)) | (refine SlF.pre _ _ ?_ ?_; (first | omega | (simp; omega)); (exact fun _ => rfl)) | (refine SlF.same ?_ ?_; (first | rfl | omega | (simp; done) | (simp; omega)); (first | exact fz_self _ _ (fun _ => rfl) | exact fz_pl rfl | (refine Fz.append ?_ ?_ <;> first | exact fz_self _ _ (fun _ => rfl) | exact fz_pl rfl) | (refine Fz.append (Fz.append ?_ ?_) ?_ <;> first | exact fz_self _ _ (fun _ => rfl) | exact fz_pl rfl))) | (simp only [Int.toNat_natCast, Nat.zero_add, Nat.mul_one]; rfl) | ((show @Eq (Option CV) _ _); rfl) | ((fail_if_success (show @Eq (Option _) _ _)); rfl) | ((show @Eq (Option _) _ _); simp only [List.getElem?_cons_zero, List.getElem?_cons_succ]; done) | ((show @Eq (Option _) _ _); simp only [List.getElem?_cons_zero, List.getElem?_cons_succ]; rfl) | with_reducible rfl)); conv => whnf))); exact Done.mk trivial))); conv => whnf)
    | (refine Pick.mk ?_ ?_ ?_; rotate_left; (focus ((simp only [chunks]; rfl))); conv => whnf))
  all_goals
   refine Hand.mk [] ?_
   try (conv => whnf)
   refine CallW.n (s_word hS3 (by omega)) ?_
   rintro _ _ ⟨a4, s4, _, rfl, hS4, v4, rfl, rfl, hv4⟩
   try (conv => whnf)
   repeat (first
    | (refine Need.mk ?_ ?_; (focus (first | omega | ((conv => whnf); (repeat (first | (refine Need.mk (by first | rfl | omega | (simp; done)) ?_; conv => whnf) | (refine Pick.mk ?_ ?_ ?_; rotate_left; (focus (first | with_reducible exact xor_u8 _ _ | (with_reducible refine xor_i64 ?_ ?_; all_goals omega) | (with_reducible refine xor_u32 ?_ ?_; all_goals omega) | exact sl_ops _ rfl | assumption | with_reducible exact set_byN _ _ _ _ | with_reducible exact set_byI _ _ _ _ | with_reducible exact set_inN _ _ _ _ | with_reducible exact set_inI _ _ _ _ | with_reducible exact set_stN _ _ _ _ | with_reducible exact set_tsN _ _ _ _ | with_reducible exact set_tsI _ _ _ _ | with_reducible exact set_boN _ _ _ _ | with_reducible exact set_boI _ _ _ _ | (with_reducible refine get_mapN _ _ _ ?_; first | omega | (simp; omega)) | (with_reducible refine get_mapI _ _ _ ?_ ?_ <;> first | omega | (simp; omega)) | exact bs_beq _ _ | exact bs_less _ _ | exact bs_leq _ _ | with_reducible exact bs_app _ _ | (refine bs_get _ _ ?_; omega) | (refine bs_int _ _ ?_ ?_ <;> omega) | with_reducible exact sl_map0 _ _ _ | with_reducible exact sl_mapN _ _ _ | with_reducible exact sl_map _ _ _ _ | exact bs_extract0 _ _ | exact bs_extractN _ _ | exact bs_extract _ _ _ | (refine bnd_id ?_; omega) | (refine bnd_sub ?_ ?_ <;> omega) | (refine bnd_add ?_; omega) | (refine bnd_subN ?_ ?_ <;> omega) | (refine bnd_int ?_ ?_ <;> omega) | ((show @Eq Nat (_ + Int.toNat _ * _) _); simp only [Int.toNat_natCast, Nat.zero_add, Nat.mul_one]; rfl) | ((show @Eq (List _) (List.set [_] _ _) _); simp only [List.set_cons_zero]; rfl) | exact List.length_map _ | exact size_bs _ | (simp only [List.length_map, List.length_append, List.length_cons, List.length_nil, List.length_replicate, Nat.zero_add]; rfl) | with_reducible exact List.nil_append _ | with_reducible exact map_app _ _ _ | exact map_snoc byD _ _ | exact map_snoc inD _ _ | exact map_snoc stD _ _ | exact map_snoc tsD _ _ | (simp only [chunks]; rfl) | (refine wid ?_ ?_ <;> omega) | exact wby _ | with_reducible exact wby32 _ | with_reducible exact wu32 _ | exact wby64 _ | exact shr8 _ | exact shr16 _ | exact shr24 _ | exact shr32 _ | (refine tmodn ?_; omega) | (refine wdiv ?_ ?_ ?_ <;> omega) | exact wbyte _ | exact natlit _ | exact rep_by _ | exact rep_in _ | exact rep_bo _ | exact rep_st _ | (refine pick_nat _ _ _ ?_; omega) | (refine pick_int _ _ _ ?_ ?_ <;> omega) | (refine SlOf.full ?_; first | (simp; done) | (simp; omega)) | (with_reducible refine SlOf.pre _ _ ?_; first | omega | (simp; omega)) | (refine SlF.self _ _ ?_ ?_; (first | rfl | omega | (simp; done) | (simp; omega)); (exact fun _ => rfl)) | (refine SlF.pre _ _ ?_ ?_; (first | omega | (simp; omega)); (exact fun _ => rfl)) | (refine SlF.same ?_ ?_; (first | rfl | omega | (simp; done) | (simp; omega)); (first | exact fz_self _ _ (fun _ => rfl) | exact fz_pl rfl | (refine Fz.append ?_ ?_ <;> first | exact fz_self _ _ (fun _ => rfl) | exact fz_pl rfl) | (refine Fz.append (Fz.append ?_ ?_) ?_ <;> first | exact fz_self _ _ (fun _ => rfl) | exact fz_pl rfl))) | (simp only [Int.toNat_natCast, Nat.zero_add, Nat.mul_one]; rfl) | ((show @Eq (Option CV) _ _); rfl) | ((fail_if_success (show @Eq (Option _) _ _)); rfl) | ((show @Eq (Option _) _ _); simp only [List.getElem?_cons_zero, List.getElem?_cons_succ]; done) | ((show @Eq (Option _) _ _); simp only [List.getElem?_cons_zero, List.getElem?_cons_succ]; rfl) | with_reducible rfl)); conv => whnf))); exact Done.mk trivial))); conv => whnf)
    | (refine Pick.mk ?_ ?_ ?_; rotate_left; (focus ((simp only [chunks]; rfl))); conv => whnf))
  all_goals
   try (conv => whnf)
   repeat' (first
    | (refine Need.ways ?_ ?_ <;> conv => whnf)
    | (refine pickV 5 rfl (by rw [addN_eq]; show _ < 4; omega) fun x hxl hx => ?_; conv => whnf))
  all_goals
   refine Hand.mk [] ?_
   try (conv => whnf)
   refine CallW.k (s_l08Make l act ⟨0, 0, 0, [], 1, 1 + v2, 0, 0, 0, 0, x, v4⟩ hl hw2 ha (by simp only; omega)) ?_
   try (conv => whnf)
  all_goals
   refine Out.mk false [0, 1, 2, 3, 4] [] ?_
   try (conv => whnf)
   exact ⟨_, _, [], rfl, hS4.mono (by omega), _, rfl, rfl, makeO_w hw ha h0 rfl (by first | (simp; done) | (dsimp only; omega)) (by first | (simp; done) | (dsimp only; omega)), rfl⟩
end
end Go.Proofs.Ytpdjehnlejjfmaa.D
/- Logs as they are drawn: grown, bent. -/
namespace Go.Proofs.Ytpdjehnlejjfmaa.D
open Go.RowKit
set_option maxRecDepth 100000
set_option maxHeartbeats 4000000
set_option linter.unusedVariables false
set_option linter.unusedSimpArgs false
abbrev lD (l : List OpV) : List DV := [.sl (l.map oD)]
structure LgW (n : Nat) (t : Int) (l : List OpV) : Prop where
 len : l.length ≤ n
 ops : ∀ o ∈ l, OpW t o
theorem LgW.mono {n m : Nat} {t u : Int} {l : List OpV} (h : LgW n t l) (hn : n ≤ m) (ht : t ≤ u) : LgW m u l := ⟨Nat.le_trans h.len hn, fun o ho => (h.ops o ho).mono ht⟩
theorem waitGo_mem (log : List OpV) : ∀ (r w w' : List OpV), waitGo log r w = some w' → ∀ o ∈ w', o ∈ w ∨ o ∈ r
 | [], w, w', h => by simp only [waitGo, Option.some.injEq] at h; subst h; exact fun o ho => .inl ho
 |x :: r, w, w', h => by
  rw [waitGo] at h
  split at h
  ·split at h
   ·exact fun o ho => (waitGo_mem log r w w' h o ho).imp id fun h => List.mem_cons_of_mem _ h
   ·cases h
  ·split at h
   ·cases h
   ·intro o ho
    rcases waitGo_mem log r _ w' h o ho with h1 | h1
    ·split at h1
     ·exact .inl h1
     ·rcases List.mem_append.1 h1 with h1 | h1
      ·exact .inl h1
      ·exact .inr (by simp at h1; simp [h1])
    ·exact .inr (List.mem_cons_of_mem _ h1)
theorem addGo_ok (out wait : List OpV) (i : Nat) : LogOk out → (∀ o ∈ wait, OpOk o) → (addGo out wait i).2.2 = 0 → LogOk (addGo out wait i).1 ∧ (∀ o ∈ (addGo out wait i).1, o ∈ out ∨ o ∈ wait) ∧ (∀ o ∈ (addGo out wait i).2.1, o ∈ wait) := by
 induction out, wait, i using addGo.induct with
 | case1 out wait i h hf hk hn => intro _ _ h0; rw [addGo_many h hf hk hn] at h0; simp at h0
 | case2 out wait i h hf hk hn ih =>
  intro ho hw h0
  rw [addGo_put h hf hk hn] at h0 ⊢
  have hlen := ho.len
  obtain ⟨h1, h2, h3⟩ := ih (ho.ins (hw _ (List.getElem_mem h)) hf hk (by omega)) (fun o ho => (List.mem_append.1 ho).elim (fun h => hw o (List.mem_of_mem_take h)) fun h => hw o (List.mem_of_mem_drop h)) h0
  refine ⟨h1, fun o ho => ?_, fun o ho => (List.mem_append.1 (h3 o ho)).elim List.mem_of_mem_take List.mem_of_mem_drop⟩
  rcases h2 o ho with h4 | h4
  ·rcases insL_mem.1 h4 with rfl | h4
   ·exact .inr (List.getElem_mem h)
   ·exact .inl h4
  ·exact .inr ((List.mem_append.1 h4).elim List.mem_of_mem_take List.mem_of_mem_drop)
 | case3 out wait i h hf hk => intro _ _ h0; rw [addGo_kind h hf hk] at h0; simp at h0
 | case4 out wait i h hf ih => intro ho hw h0; rw [addGo_next h hf] at h0 ⊢; exact ih ho hw h0
 | case5 out wait i h => intro ho hw _; rw [addGo_end h]; exact ⟨ho, fun o h => .inl h, fun o h => h⟩
theorem addL_ok {log more : List OpV} (h : (addL log more).2.2 = 0) : LogOk (addL log more).1 ∧ (∀ o ∈ (addL log more).1, o ∈ log ∨ o ∈ more) ∧ (∀ o ∈ (addL log more).2.1, o ∈ more) ∧ LogOk log := by
 unfold addL at h ⊢
 split at h
 ·simp at h
 ·rename_i h1
  rw [if_neg h1]
  split at h
  ·simp at h
  ·rename_i h2
   rw [if_neg h2]
   split at h
   ·simp at h
   ·rename_i h3
    rw [if_neg h3]
    simp only [Classical.not_not] at h2 h3
    split at h
    ·simp at h
    ·rename_i w hw
     have hm := waitGo_mem log more [] w hw
     have hm : ∀ o ∈ w, o ∈ more := fun o ho => (hm o ho).resolve_left (by simp)
     obtain ⟨g1, g2, g3⟩ := addGo_ok log w 0 h2 (fun o ho => h3 o (hm o ho)) h
     exact ⟨g1, fun o ho => (g2 o ho).imp id (hm o), fun o ho => hm o (g3 o ho), h2⟩
theorem set_lD' (ls : List (List OpV)) (v : Int) (x : DV) (l : List OpV) : (ls.map lD).set (addN 0 v.toNat) (splice [x] 0 [.sl (l.map oD)]) = (ls.set v.toNat l).map lD := by
 rw [addN_eq, Nat.zero_add, List.map_set]; rfl
theorem all_set {α : Type} {p : α → Prop} {ls : List α} {k : Nat} {x : α} (h : ∀ l ∈ ls, p l) (hx : p x) : ∀ l ∈ ls.set k x, p l := fun l hl => (List.mem_or_eq_of_mem_set hl).elim (h l) fun e => e ▸ hx
section
variable {code : List UInt8} {a s b : Int}
theorem s_l08Grow (hS : Src code a s b) (hb : b ≤ 2 ^ 55) (m : Int) (h0 : 0 ≤ m) (hm : m ≤ 1000) :
  CallM Try.prog id_spec_l08Grow [.one (.ptr 0 0), vI .i64 m] [srcR code a s] [] false (Draws code (b + 3 + 300 * m) fun r Lo => ∃ ls : List (List OpV), Lo = [] ∧ r = .one (.dv (.sl (ls.map lD))) ∧ ls.length = 3 ∧ ∀ l ∈ ls, LgW (1024 + (3 * m).toNat) (3 * m) l) := by
 refine F_spec_l08Grow ?_
 try (conv => whnf)
 repeat (first
  | (refine Pick.mk ?_ ?_ ?_; rotate_left; (focus (first | (simp only [chunks]; rfl) | (refine SlF.same ?_ ?_; (first | rfl | omega | (simp; done) | (simp; omega)); (first | exact fz_self _ _ (fun _ => rfl) | exact fz_pl rfl | (refine Fz.append ?_ ?_ <;> first | exact fz_self _ _ (fun _ => rfl) | exact fz_pl rfl) | (refine Fz.append (Fz.append ?_ ?_) ?_ <;> first | exact fz_self _ _ (fun _ => rfl) | exact fz_pl rfl))))); conv => whnf)
  | (refine OwnQ.mk false ?_; conv => whnf))
 refine Hand.mk [] ?_
 try (conv => whnf)
 refine CallW.n (s_size hS m h0 (by omega)) ?_
 rintro _ _ ⟨a1, s1, _, rfl, hS1, v1, rfl, rfl, hv1⟩
 try (conv => whnf)
 repeat (refine Pick.mk ?_ ?_ ?_; rotate_left; (focus ((refine wid ?_ ?_ <;> omega))); conv => whnf)
 refine Hand.mk [] ?_
 try (conv => whnf)
 refine CallW.n (s_next hS1 (by omega) (3 * v1 + 1) (by omega)) ?_
 rintro _ _ ⟨a2, s2, _, rfl, hS2, v2, rfl, rfl, hv2⟩
 try (conv => whnf)
 obtain ⟨n, rfl⟩ : ∃ n : Nat, v2 = n := ⟨v2.toNat, by omega⟩
 refine LoopE.mk (fun x : Nat × Int × Int × List (List OpV) => mk [(0, .one (.ptr 0 0)), (5, .one (.os (.v 8240) 1 0 3)), (6, vI .i64 x.1)] [(0, srcR code x.2.1 x.2.2.1), (8240, .own 1 (x.2.2.2.map lD))])
  (fun x => x.1 ≤ n ∧ x.2.2.2.length = 3 ∧ (∀ l ∈ x.2.2.2, LgW (1024 + (n - x.1)) ((n - x.1 : Nat) : Int) l) ∧ Src code x.2.1 x.2.2.1 (b + 3 + 80 * (n - x.1 : Nat))) (fun x => x.1) (n, a2, s2, [[], [], []]) ⟨by omega, rfl, fun l hl => ⟨by simp at hl; simp [hl], fun o ho => by simp at hl; simp [hl] at ho⟩, hS2.mono (by simp)⟩ (LeX.of ?_) ?_
 ·try (conv => whnf)
  repeat (refine Need.mk ?_ ?_; (focus (first | omega | (simp; done))); conv => whnf)
  trivial
 ·rintro ⟨i, a, s, ls⟩ ⟨hi, hls, hw, hS⟩
  simp only at hi hls hw hS ⊢
  by_cases h0i : 0 < i
  ·have hn1 : n - i ≤ 3000 := by omega
   try (conv => whnf)
   repeat' (first
    | (refine SeqJ.thru ?_; conv => whnf)
    | (refine br_dec (fun _ => ?_) (fun _ => ?_) <;> first | (exfalso; omega) | contradiction | conv => whnf)
    | (refine br_not ?_; conv => whnf)
    | (refine br_bne (fun _ => ?_) (fun _ => ?_) <;> first | (exfalso; omega) | contradiction | conv => whnf)
    | (refine br_beq (fun _ => ?_) (fun _ => ?_) <;> first | (exfalso; omega) | contradiction | conv => whnf))
   refine Hand.mk [] ?_
   try (conv => whnf)
   refine CallW.n (s_next hS (by omega) 3 (by omega)) ?_
   rintro _ _ ⟨a3, s3, _, rfl, hS3, v3, rfl, rfl, hv3⟩
   try (conv => whnf)
   repeat (refine SeqJ.thru ?_; conv => whnf)
   refine Hand.mk [] ?_
   try (conv => whnf)
   refine CallW.n (s_chance hS3 (by omega) 4 (by omega) (by omega)) ?_
   rintro _ _ ⟨a4, s4, _, rfl, hS4, v4, rfl, rfl, hv4⟩
   try (conv => whnf)
   have w3 := hw (ls[v3.toNat]'(by omega)) (List.getElem_mem _)
   cases v4
   ·try (conv => whnf)
    repeat' (first
     | (refine Need.mk ?_ ?_; (focus (omega)); conv => whnf)
     | (refine Pick.mk ?_ ?_ ?_; rotate_left; (focus ((with_reducible refine get_mapI _ _ _ ?_ ?_ <;> first | omega | (simp; omega)))); conv => whnf)
     | (refine br_dec (fun _ => ?_) (fun _ => ?_) <;> first | (exfalso; omega) | contradiction | conv => whnf)
     | (refine br_not ?_; conv => whnf)
     | (refine br_bne (fun _ => ?_) (fun _ => ?_) <;> first | (exfalso; omega) | contradiction | conv => whnf)
     | (refine br_beq (fun _ => ?_) (fun _ => ?_) <;> first | (exfalso; omega) | contradiction | conv => whnf))
    refine Hand.mk [] ?_
    try (conv => whnf)
    refine CallW.n (s_l08Some hS4 (by omega) ((n - i : Nat) : Int) (ls[v3.toNat]'(by omega)) v3 (by have := w3.len; omega) w3.ops ⟨by omega, by omega⟩ (by omega) (by omega)) ?_
    rintro _ _ ⟨a5, s5, _, rfl, hS5, v5, rfl, rfl, hv5⟩
    try (conv => whnf)
    repeat (refine Need.mk ?_ ?_; (focus (((conv => whnf); (repeat (first | (refine Need.mk (by first | rfl | omega | (simp; done)) ?_; conv => whnf) | (refine Pick.mk ?_ ?_ ?_; rotate_left; (focus (first | with_reducible exact xor_u8 _ _ | (with_reducible refine xor_i64 ?_ ?_; all_goals omega) | (with_reducible refine xor_u32 ?_ ?_; all_goals omega) | with_reducible exact set_lD' _ _ _ _ | exact sl_ops _ rfl | assumption | with_reducible exact set_byN _ _ _ _ | with_reducible exact set_byI _ _ _ _ | with_reducible exact set_inN _ _ _ _ | with_reducible exact set_inI _ _ _ _ | with_reducible exact set_stN _ _ _ _ | with_reducible exact set_tsN _ _ _ _ | with_reducible exact set_tsI _ _ _ _ | with_reducible exact set_boN _ _ _ _ | with_reducible exact set_boI _ _ _ _ | (with_reducible refine get_mapN _ _ _ ?_; first | omega | (simp; omega)) | (with_reducible refine get_mapI _ _ _ ?_ ?_ <;> first | omega | (simp; omega)) | exact bs_beq _ _ | exact bs_less _ _ | exact bs_leq _ _ | with_reducible exact bs_app _ _ | (refine bs_get _ _ ?_; omega) | (refine bs_int _ _ ?_ ?_ <;> omega) | with_reducible exact sl_map0 _ _ _ | with_reducible exact sl_mapN _ _ _ | with_reducible exact sl_map _ _ _ _ | exact bs_extract0 _ _ | exact bs_extractN _ _ | exact bs_extract _ _ _ | (refine bnd_id ?_; omega) | (refine bnd_sub ?_ ?_ <;> omega) | (refine bnd_add ?_; omega) | (refine bnd_subN ?_ ?_ <;> omega) | (refine bnd_int ?_ ?_ <;> omega) | ((show @Eq Nat (_ + Int.toNat _ * _) _); simp only [Int.toNat_natCast, Nat.zero_add, Nat.mul_one]; rfl) | ((show @Eq (List _) (List.set [_] _ _) _); simp only [List.set_cons_zero]; rfl) | exact List.length_map _ | exact size_bs _ | (simp only [List.length_map, List.length_append, List.length_cons, List.length_nil, List.length_replicate, Nat.zero_add]; rfl) | with_reducible exact List.nil_append _ | with_reducible exact map_app _ _ _ | exact map_snoc byD _ _ | exact map_snoc inD _ _ | exact map_snoc stD _ _ | exact map_snoc tsD _ _ | (simp only [chunks]; rfl) | (refine wid ?_ ?_ <;> omega) | exact wby _ | with_reducible exact wby32 _ | with_reducible exact wu32 _ | exact wby64 _ | exact shr8 _ | exact shr16 _ | exact shr24 _ | exact shr32 _ | (refine tmodn ?_; omega) | (refine wdiv ?_ ?_ ?_ <;> omega) | exact wbyte _ | exact natlit _ | exact rep_by _ | exact rep_in _ | exact rep_bo _ | exact rep_st _ | (refine pick_nat _ _ _ ?_; omega) | (refine pick_int _ _ _ ?_ ?_ <;> omega) | (refine SlOf.full ?_; first | (simp; done) | (simp; omega)) | (with_reducible refine SlOf.pre _ _ ?_; first | omega | (simp; omega)) | (refine SlF.self _ _ ?_ ?_; (first | rfl | omega | (simp; done) | (simp; omega)); (exact fun _ => rfl)) | (refine SlF.pre _ _ ?_ ?_; (first | omega | (simp; omega)); (exact fun _ => rfl)) | (refine SlF.same ?_ ?_; (first | rfl | omega | (simp; done) | (simp; omega)); (first | exact fz_self _ _ (fun _ => rfl) | exact fz_pl rfl | (refine Fz.append ?_ ?_ <;> first | exact fz_self _ _ (fun _ => rfl) | exact fz_pl rfl) | (refine Fz.append (Fz.append ?_ ?_) ?_ <;> first | exact fz_self _ _ (fun _ => rfl) | exact fz_pl rfl))) | (simp only [Int.toNat_natCast, Nat.zero_add, Nat.mul_one]; rfl) | ((show @Eq (Option CV) _ _); rfl) | ((fail_if_success (show @Eq (Option _) _ _)); rfl) | ((show @Eq (Option _) _ _); simp only [List.getElem?_cons_zero, List.getElem?_cons_succ]; done) | ((show @Eq (Option _) _ _); simp only [List.getElem?_cons_zero, List.getElem?_cons_succ]; rfl) | with_reducible rfl)); conv => whnf))); exact Done.mk trivial))); conv => whnf)
    refine Hand.mk [] ?_
    try (conv => whnf)
    refine CallW.k (s_l08Insert (ls[v3.toNat]'(by omega)) v5 (by have := w3.len; omega)) ?_
    try (conv => whnf)
    repeat (first
     | (refine Need.mk ?_ ?_; (focus (first | omega | (simp only [List.length_map, List.length_append, List.length_cons, List.length_nil, List.length_replicate]; omega) | ((conv => whnf); (repeat (first | (refine Need.mk (by first | rfl | omega | (simp; done)) ?_; conv => whnf) | (refine Pick.mk ?_ ?_ ?_; rotate_left; (focus (first | with_reducible exact xor_u8 _ _ | (with_reducible refine xor_i64 ?_ ?_; all_goals omega) | (with_reducible refine xor_u32 ?_ ?_; all_goals omega) | with_reducible exact set_lD' _ _ _ _ | exact sl_ops _ rfl | assumption | with_reducible exact set_byN _ _ _ _ | with_reducible exact set_byI _ _ _ _ | with_reducible exact set_inN _ _ _ _ | with_reducible exact set_inI _ _ _ _ | with_reducible exact set_stN _ _ _ _ | with_reducible exact set_tsN _ _ _ _ | with_reducible exact set_tsI _ _ _ _ | with_reducible exact set_boN _ _ _ _ | with_reducible exact set_boI _ _ _ _ | (with_reducible refine get_mapN _ _ _ ?_; first | omega | (simp; omega)) | (with_reducible refine get_mapI _ _ _ ?_ ?_ <;> first | omega | (simp; omega)) | exact bs_beq _ _ | exact bs_less _ _ | exact bs_leq _ _ | with_reducible exact bs_app _ _ | (refine bs_get _ _ ?_; omega) | (refine bs_int _ _ ?_ ?_ <;> omega) | with_reducible exact sl_map0 _ _ _ | with_reducible exact sl_mapN _ _ _ | with_reducible exact sl_map _ _ _ _ | exact bs_extract0 _ _ | exact bs_extractN _ _ | exact bs_extract _ _ _ | (refine bnd_id ?_; omega) | (refine bnd_sub ?_ ?_ <;> omega) | (refine bnd_add ?_; omega) | (refine bnd_subN ?_ ?_ <;> omega) | (refine bnd_int ?_ ?_ <;> omega) | ((show @Eq Nat (_ + Int.toNat _ * _) _); simp only [Int.toNat_natCast, Nat.zero_add, Nat.mul_one]; rfl) | ((show @Eq (List _) (List.set [_] _ _) _); simp only [List.set_cons_zero]; rfl) | exact List.length_map _ | exact size_bs _ | (simp only [List.length_map, List.length_append, List.length_cons, List.length_nil, List.length_replicate, Nat.zero_add]; rfl) | with_reducible exact List.nil_append _ | with_reducible exact map_app _ _ _ | exact map_snoc byD _ _ | exact map_snoc inD _ _ | exact map_snoc stD _ _ | exact map_snoc tsD _ _ | (simp only [chunks]; rfl) | (refine wid ?_ ?_ <;> omega) | exact wby _ | with_reducible exact wby32 _ | with_reducible exact wu32 _ | exact wby64 _ | exact shr8 _ | exact shr16 _ | exact shr24 _ | exact shr32 _ | (refine tmodn ?_; omega) | (refine wdiv ?_ ?_ ?_ <;> omega) | exact wbyte _ | exact natlit _ | exact rep_by _ | exact rep_in _ | exact rep_bo _ | exact rep_st _ | (refine pick_nat _ _ _ ?_; omega) | (refine pick_int _ _ _ ?_ ?_ <;> omega) | (refine SlOf.full ?_; first | (simp; done) | (simp; omega)) | (with_reducible refine SlOf.pre _ _ ?_; first | omega | (simp; omega)) | (refine SlF.self _ _ ?_ ?_; (first | rfl | omega | (simp; done) | (simp; omega)); (exact fun _ => rfl)) | (refine SlF.pre _ _ ?_ ?_; (first | omega | (simp; omega)); (exact fun _ => rfl)) | (refine SlF.same ?_ ?_; (first | rfl | omega | (simp; done) | (simp; omega)); (first | exact fz_self _ _ (fun _ => rfl) | exact fz_pl rfl | (refine Fz.append ?_ ?_ <;> first | exact fz_self _ _ (fun _ => rfl) | exact fz_pl rfl) | (refine Fz.append (Fz.append ?_ ?_) ?_ <;> first | exact fz_self _ _ (fun _ => rfl) | exact fz_pl rfl))) | (simp only [Int.toNat_natCast, Nat.zero_add, Nat.mul_one]; rfl) | ((show @Eq (Option CV) _ _); rfl) | ((fail_if_success (show @Eq (Option _) _ _)); rfl) | ((show @Eq (Option _) _ _); simp only [List.getElem?_cons_zero, List.getElem?_cons_succ]; done) | ((show @Eq (Option _) _ _); simp only [List.getElem?_cons_zero, List.getElem?_cons_succ]; rfl) | with_reducible rfl)); conv => whnf))); exact Done.mk trivial))); conv => whnf)
     | (refine Pick.mk ?_ ?_ ?_; rotate_left; (focus (first | with_reducible exact set_lD' _ _ _ _ | (with_reducible refine get_mapI _ _ _ ?_ ?_ <;> first | omega | (simp; omega)) | (refine wid ?_ ?_ <;> omega))); conv => whnf))
    refine Pick.mk (i - 1, a5, s5, ls.set v3.toNat (insL (ls[v3.toNat]'(by omega)) v5)) ⟨⟨by simp only; omega, by simpa using hls, ?_, hS5.mono (by simp only; omega)⟩, by simp only; omega⟩ (LeX.of ?_)
    ·refine all_set (fun l hl => (hw l hl).mono (by simp only; omega) (by simp only; omega)) ⟨by rw [insL_length]; have := w3.len; simp only; omega, fun o ho => ?_⟩
     rcases insL_mem.1 ho with rfl | ho
     ·exact hv5.1.mono (by simp only; omega)
     ·exact (w3.ops o ho).mono (by simp only; omega)
    ·try (conv => whnf)
     repeat (refine Need.mk ?_ ?_; (focus (first | omega | (simp; done))); conv => whnf)
     trivial
   ·try (conv => whnf)
    repeat' (first
     | (refine Need.mk ?_ ?_; (focus (omega)); conv => whnf)
     | (refine Pick.mk ?_ ?_ ?_; rotate_left; (focus ((with_reducible refine get_mapI _ _ _ ?_ ?_ <;> first | omega | (simp; omega)))); conv => whnf)
     | (refine br_dec (fun _ => ?_) (fun _ => ?_) <;> first | (exfalso; omega) | contradiction | conv => whnf)
     | (refine br_not ?_; conv => whnf)
     | (refine br_bne (fun _ => ?_) (fun _ => ?_) <;> first | (exfalso; omega) | contradiction | conv => whnf)
     | (refine br_beq (fun _ => ?_) (fun _ => ?_) <;> first | (exfalso; omega) | contradiction | conv => whnf))
    try (conv => whnf)
    repeat' (refine Need.ways ?_ ?_ <;> conv => whnf)
    all_goals
     refine Hand.mk [] ?_
     try (conv => whnf)
     refine CallW.n (s_next hS4 (by omega) 3 (by omega)) ?_
     rintro _ _ ⟨a5, s5, _, rfl, hS5, v5, rfl, rfl, hv5⟩
     try (conv => whnf)
     repeat (first
      | (refine Need.mk ?_ ?_; (focus (first | omega | ((conv => whnf); (repeat (first | (refine Need.mk (by first | rfl | omega | (simp; done)) ?_; conv => whnf) | (refine Pick.mk ?_ ?_ ?_; rotate_left; (focus (first | with_reducible exact xor_u8 _ _ | (with_reducible refine xor_i64 ?_ ?_; all_goals omega) | (with_reducible refine xor_u32 ?_ ?_; all_goals omega) | with_reducible exact set_lD' _ _ _ _ | exact sl_ops _ rfl | assumption | with_reducible exact set_byN _ _ _ _ | with_reducible exact set_byI _ _ _ _ | with_reducible exact set_inN _ _ _ _ | with_reducible exact set_inI _ _ _ _ | with_reducible exact set_stN _ _ _ _ | with_reducible exact set_tsN _ _ _ _ | with_reducible exact set_tsI _ _ _ _ | with_reducible exact set_boN _ _ _ _ | with_reducible exact set_boI _ _ _ _ | (with_reducible refine get_mapN _ _ _ ?_; first | omega | (simp; omega)) | (with_reducible refine get_mapI _ _ _ ?_ ?_ <;> first | omega | (simp; omega)) | exact bs_beq _ _ | exact bs_less _ _ | exact bs_leq _ _ | with_reducible exact bs_app _ _ | (refine bs_get _ _ ?_; omega) | (refine bs_int _ _ ?_ ?_ <;> omega) | with_reducible exact sl_map0 _ _ _ | with_reducible exact sl_mapN _ _ _ | with_reducible exact sl_map _ _ _ _ | exact bs_extract0 _ _ | exact bs_extractN _ _ | exact bs_extract _ _ _ | (refine bnd_id ?_; omega) | (refine bnd_sub ?_ ?_ <;> omega) | (refine bnd_add ?_; omega) | (refine bnd_subN ?_ ?_ <;> omega) | (refine bnd_int ?_ ?_ <;> omega) | ((show @Eq Nat (_ + Int.toNat _ * _) _); simp only [Int.toNat_natCast, Nat.zero_add, Nat.mul_one]; rfl) | ((show @Eq (List _) (List.set [_] _ _) _); simp only [List.set_cons_zero]; rfl) | exact List.length_map _ | exact size_bs _ | (simp only [List.length_map, List.length_append, List.length_cons, List.length_nil, List.length_replicate, Nat.zero_add]; rfl) | with_reducible exact List.nil_append _ | with_reducible exact map_app _ _ _ | exact map_snoc byD _ _ | exact map_snoc inD _ _ | exact map_snoc stD _ _ | exact map_snoc tsD _ _ | (simp only [chunks]; rfl) | (refine wid ?_ ?_ <;> omega) | exact wby _ | with_reducible exact wby32 _ | with_reducible exact wu32 _ | exact wby64 _ | exact shr8 _ | exact shr16 _ | exact shr24 _ | exact shr32 _ | (refine tmodn ?_; omega) | (refine wdiv ?_ ?_ ?_ <;> omega) | exact wbyte _ | exact natlit _ | exact rep_by _ | exact rep_in _ | exact rep_bo _ | exact rep_st _ | (refine pick_nat _ _ _ ?_; omega) | (refine pick_int _ _ _ ?_ ?_ <;> omega) | (refine SlOf.full ?_; first | (simp; done) | (simp; omega)) | (with_reducible refine SlOf.pre _ _ ?_; first | omega | (simp; omega)) | (refine SlF.self _ _ ?_ ?_; (first | rfl | omega | (simp; done) | (simp; omega)); (exact fun _ => rfl)) | (refine SlF.pre _ _ ?_ ?_; (first | omega | (simp; omega)); (exact fun _ => rfl)) | (refine SlF.same ?_ ?_; (first | rfl | omega | (simp; done) | (simp; omega)); (first | exact fz_self _ _ (fun _ => rfl) | exact fz_pl rfl | (refine Fz.append ?_ ?_ <;> first | exact fz_self _ _ (fun _ => rfl) | exact fz_pl rfl) | (refine Fz.append (Fz.append ?_ ?_) ?_ <;> first | exact fz_self _ _ (fun _ => rfl) | exact fz_pl rfl))) | (simp only [Int.toNat_natCast, Nat.zero_add, Nat.mul_one]; rfl) | ((show @Eq (Option CV) _ _); rfl) | ((fail_if_success (show @Eq (Option _) _ _)); rfl) | ((show @Eq (Option _) _ _); simp only [List.getElem?_cons_zero, List.getElem?_cons_succ]; done) | ((show @Eq (Option _) _ _); simp only [List.getElem?_cons_zero, List.getElem?_cons_succ]; rfl) | with_reducible rfl)); conv => whnf))); exact Done.mk trivial))); conv => whnf)
      | (refine Pick.mk ?_ ?_ ?_; rotate_left; (focus ((with_reducible refine get_mapI _ _ _ ?_ ?_ <;> first | omega | (simp; omega)))); conv => whnf))
    all_goals
     try (conv => whnf)
     repeat' (refine Need.ways ?_ ?_ <;> conv => whnf)
    have w5 := hw (ls[v5.toNat]'(by omega)) (List.getElem_mem _)
    have c5 := s_LogAdd (ls[v3.toNat]'(by omega)) (ls[v5.toNat]'(by omega)) (fun o ho => by have := (w3.ops o ho).key; have := (w3.ops o ho).text; omega) (fun o ho => by have := (w5.ops o ho).key; have := (w5.ops o ho).text; omega)
    obtain ⟨R, hR⟩ : ∃ R, R = addL (ls[v3.toNat]'(by omega)) (ls[v5.toNat]'(by omega)) := ⟨_, rfl⟩
    rw [← hR] at c5
    refine Hand.mk [] ?_
    try (conv => whnf)
    refine CallW.k (c5) ?_
    try (conv => whnf)
    repeat (refine SeqJ.thru ?_; conv => whnf)
    try (conv => whnf)
    repeat' (first
     | (refine Need.mk ?_ ?_; (focus (first | omega | (simp only [List.length_map, List.length_append, List.length_cons, List.length_nil, List.length_replicate]; omega))); conv => whnf)
     | (refine Pick.mk ?_ ?_ ?_; rotate_left; (focus (first | with_reducible exact set_lD' _ _ _ _ | (with_reducible refine get_mapI _ _ _ ?_ ?_ <;> first | omega | (simp; omega)) | (refine wid ?_ ?_ <;> omega))); conv => whnf)
     | (refine br_dec (fun _ => ?_) (fun _ => ?_) <;> first | (exfalso; omega) | contradiction | conv => whnf)
     | (refine br_not ?_; conv => whnf)
     | (refine br_bne (fun _ => ?_) (fun _ => ?_) <;> first | (exfalso; omega) | contradiction | conv => whnf)
     | (refine br_beq (fun _ => ?_) (fun _ => ?_) <;> first | (exfalso; omega) | contradiction | conv => whnf))
    ·obtain ⟨q1, q2, -, -⟩ := addL_ok (log := ls[v3.toNat]'(by omega)) (more := ls[v5.toNat]'(by omega)) (by rw [← hR]; assumption)
     rw [← hR] at q1 q2
     refine Pick.mk (i - 1, a5, s5, ls.set v3.toNat R.1) ⟨⟨by simp only; omega, by simpa using hls, ?_, hS5.mono (by simp only; omega)⟩, by simp only; omega⟩ (LeX.of ?_)
     ·refine all_set (fun l hl => (hw l hl).mono (by simp only; omega) (by simp only; omega)) ⟨by have := q1.len; simp only; omega, fun o ho => ?_⟩
      rcases q2 o ho with ho | ho
      ·exact (w3.ops o ho).mono (by simp only; omega)
      ·exact (w5.ops o ho).mono (by simp only; omega)
     ·try (conv => whnf)
      repeat (refine Need.mk ?_ ?_; (focus (first | omega | (simp; done))); conv => whnf)
      trivial
    ·refine Pick.mk (i - 1, a5, s5, ls) ⟨⟨by simp only; omega, hls, fun l hl => (hw l hl).mono (by simp only; omega) (by simp only; omega), hS5.mono (by simp only; omega)⟩, by simp only; omega⟩ (LeX.of ?_)
     try (conv => whnf)
     repeat (refine Need.mk ?_ ?_; (focus (first | omega | (simp; done))); conv => whnf)
     trivial
  ·try (conv => whnf)
   repeat' (first
    | (refine SeqJ.thru ?_; conv => whnf)
    | (refine br_dec (fun _ => ?_) (fun _ => ?_) <;> first | (exfalso; omega) | contradiction | conv => whnf)
    | (refine br_not ?_; conv => whnf)
    | (refine br_bne (fun _ => ?_) (fun _ => ?_) <;> first | (exfalso; omega) | contradiction | conv => whnf)
    | (refine br_beq (fun _ => ?_) (fun _ => ?_) <;> first | (exfalso; omega) | contradiction | conv => whnf))
   refine Out.mk true [] [] ?_
   try (conv => whnf)
   repeat (refine Pick.mk ?_ ?_ ?_; rotate_left; (focus ((refine SlF.self _ _ ?_ ?_; (first | rfl | omega | (simp; done) | (simp; omega)); (exact fun _ => rfl)))); conv => whnf)
   exact ⟨_, _, _, rfl, hS.mono (by omega), ls, rfl, rfl, hls, fun l hl => (hw l hl).mono (by omega) (by omega)⟩
structure LgX (l : List OpV) : Prop where
 len : l.length ≤ 2 ^ 20
 ops : ∀ o ∈ l, o.deps.length ≤ 2 ^ 20 ∧ o.key.length ≤ 2 ^ 20 ∧ o.text.length ≤ 2 ^ 20
theorem LgW.x {n : Nat} {t : Int} {l : List OpV} (h : LgW n t l) (hn : n ≤ 2 ^ 20) : LgX l := ⟨by have := h.len; omega, fun o ho => by have := h.ops o ho; have := this.deps; have := (h.ops o ho).key; have := (h.ops o ho).text; omega⟩
abbrev DL (Q : List OpV → Prop) : SV → List Row → Prop := fun r Lo => ∃ l, Lo = [] ∧ r = vL l ∧ Q l
theorem set_any (l : List OpV) (v : Int) (o' : OpV) {x ds : List DV} (hs : splice x 0 ds = oO o') : (l.map oO).set (addN 0 v.toNat) (splice x 0 ds) = (l.set v.toNat o').map oO := by
 rw [addN_eq, Nat.zero_add, hs, List.map_set]
theorem LgX.set {l : List OpV} {k : Nat} {o : OpV} (h : LgX l) (ho : o.deps.length ≤ 2 ^ 20 ∧ o.key.length ≤ 2 ^ 20 ∧ o.text.length ≤ 2 ^ 20) : LgX (l.set k o) := ⟨by simpa using h.len, all_set h.ops ho⟩
theorem get_setI {l : List (List DV)} {v : Int} (e : List DV) (h : v.toNat < l.length) : (l.set (addN 0 v.toNat) e)[addN 0 v.toNat]? = some e := by
 rw [addN_eq, Nat.zero_add, List.getElem?_set_self h]
theorem set_any2 (l : List OpV) (v : Int) (o' : OpV) {e x ds : List DV} (hs : splice x 0 ds = oO o') : ((l.map oO).set (addN 0 v.toNat) e).set (addN 0 v.toNat) (splice x 0 ds) = (l.set v.toNat o').map oO := by
 rw [List.set_set, addN_eq, Nat.zero_add, hs, List.map_set]
theorem s_l08Bent (hS : Src code a s b) (hb : b ≤ 2 ^ 55) (n : Nat) (t : Int) (l : List OpV) (hl : LgW n t l) (hn : n ≤ 2 ^ 18) (ht : t ≤ 2 ^ 40) :
  CallM Try.prog id_spec_l08Bent [.one (.ptr 0 0), vL l] [srcR code a s] [] false (Draws code (b + 40) (DL LgX)) := by
 refine F_spec_l08Bent ?_
 have hlen := hl.len
 try (conv => whnf)
 refine Hand.mk [] ?_
 try (conv => whnf)
 refine CallW.d (s_l08Copy l (by omega) (fun o ho => by have := (hl.ops o ho).deps; omega)) ?_
 try (conv => whnf)
 repeat (refine SeqJ.thru ?_; conv => whnf)
 try (conv => whnf)
 repeat' (first
  | (refine br_dec (fun _ => ?_) (fun _ => ?_) <;> first | (exfalso; omega) | contradiction | conv => whnf)
  | (refine br_not ?_; conv => whnf)
  | (refine br_bne (fun _ => ?_) (fun _ => ?_) <;> first | (exfalso; omega) | contradiction | conv => whnf)
  | (refine br_beq (fun _ => ?_) (fun _ => ?_) <;> first | (exfalso; omega) | contradiction | conv => whnf))
 ·refine Out.mk true [] [] ?_
  try (conv => whnf)
  repeat (refine Pick.mk ?_ ?_ ?_; rotate_left; (focus ((refine sl_ops _ ?_; simp))); conv => whnf)
  exact ⟨_, _, _, rfl, hS.mono (by omega), l, rfl, rfl, hl.x (by omega)⟩
 ·refine Hand.mk [] ?_
  try (conv => whnf)
  refine CallW.n (s_next hS (by omega) l.length (by omega)) ?_
  rintro _ _ ⟨a1, s1, _, rfl, hS1, v1, rfl, rfl, hv1⟩
  try (conv => whnf)
  repeat (first
   | (refine Need.mk ?_ ?_; (focus (omega)); conv => whnf)
   | (refine Pick.mk ?_ ?_ ?_; rotate_left; (focus ((with_reducible refine get_mapI _ _ _ ?_ ?_ <;> first | omega | (simp; omega)))); conv => whnf))
  refine Hand.mk [] ?_
  try (conv => whnf)
  refine CallW.n (s_next hS1 (by omega) 40 (by omega)) ?_
  rintro _ _ ⟨a2, s2, _, rfl, hS2, v2, rfl, rfl, hv2⟩
  try (conv => whnf)
  have ho := hl.ops (l[v1.toNat]'(by omega)) (List.getElem_mem _)
  have hdep := ho.deps
  have hkey := ho.key
  have htxt := ho.text
  have htm := ho.time
  have hX : LgX l := hl.x (by omega)
  try (conv => whnf)
  repeat' (first
   | (refine Need.mk ?_ ?_; (focus (first | omega | (simp only [List.length_map, List.length_append, List.length_cons, List.length_nil, List.length_replicate]; omega))); conv => whnf)
   | (refine Pick.mk ?_ ?_ ?_; rotate_left; (focus (first | (with_reducible refine get_mapI _ _ _ ?_ ?_ <;> first | omega | (simp; omega)) | (refine bnd_int ?_ ?_ <;> omega) | (simp only [List.length_map, List.length_append, List.length_cons, List.length_nil, List.length_replicate, Nat.zero_add]; rfl) | (simp only [chunks]; rfl) | ((fail_if_success (show @Eq (Option _) _ _)); rfl))); conv => whnf)
   | (refine OwnQ.mk true ?_; conv => whnf)
   | (refine br_dec (fun _ => ?_) (fun _ => ?_) <;> first | (exfalso; omega) | contradiction | conv => whnf)
   | (refine br_not ?_; conv => whnf)
   | (refine br_bne (fun _ => ?_) (fun _ => ?_) <;> first | (exfalso; omega) | contradiction | conv => whnf)
   | (refine br_beq (fun _ => ?_) (fun _ => ?_) <;> first | (exfalso; omega) | contradiction | conv => whnf))
  ·refine Hand.mk [] ?_
   try (conv => whnf)
   refine CallW.n (s_next hS2 (by omega) 4 (by omega)) ?_
   rintro _ _ ⟨a3, s3, _, rfl, hS3, v3, rfl, rfl, hv3⟩
   try (conv => whnf)
   repeat (refine Need.mk ?_ ?_; (focus (omega)); conv => whnf)
   refine pickJ (fun _ => true) rfl (by rw [addN_eq]; show _ < 4; omega) fun x _ hx => ?_
   try (conv => whnf)
   repeat (first
    | (refine Need.mk ?_ ?_; (focus (first | omega | (simp only [List.length_map, List.length_append, List.length_cons, List.length_nil, List.length_replicate]; omega))); conv => whnf)
    | (refine Pick.mk ?_ ?_ ?_; rotate_left; (focus (first | (with_reducible refine get_mapI _ _ _ ?_ ?_ <;> first | omega | (simp; omega)) | (simp only [List.length_map, List.length_append, List.length_cons, List.length_nil, List.length_replicate, Nat.zero_add]; rfl))); conv => whnf)
    | (refine OwnQ.mk true ?_; conv => whnf))
   refine Out.mk true [] [] ?_
   try (conv => whnf)
   refine Pick.mk ((l.set v1.toNat { (l[v1.toNat]'(by omega)) with time := x }).map oD) ?_ ?_
   focus (rw [set_any l v1 { (l[v1.toNat]'(by omega)) with time := x }]; exact sl_ops _ (by simp); rfl)
   try (conv => whnf)
   exact ⟨_, _, _, rfl, hS3.mono (by omega), _, rfl, rfl, hX.set (by (try dsimp only); (try simp only [List.length_replicate]); omega)⟩
  ·try (conv => whnf)
   repeat' (refine Need.ways ?_ ?_ <;> conv => whnf)
   all_goals
    refine Hand.mk [] ?_
    try (conv => whnf)
    refine CallW.n (s_next hS2 (by omega) 4 (by omega)) ?_
    rintro _ _ ⟨a3, s3, _, rfl, hS3, v3, rfl, rfl, hv3⟩
    try (conv => whnf)
    repeat (first
     | (refine Need.mk ?_ ?_; (focus (first | omega | (simp only [List.length_map, List.length_append, List.length_cons, List.length_nil, List.length_replicate]; omega) | (simp; omega) | ((conv => whnf); (repeat (first | (refine Need.mk (by first | rfl | omega | (simp; done)) ?_; conv => whnf) | (refine Pick.mk ?_ ?_ ?_; rotate_left; (focus (first | with_reducible exact xor_u8 _ _ | (with_reducible refine xor_i64 ?_ ?_; all_goals omega) | (with_reducible refine xor_u32 ?_ ?_; all_goals omega) | (refine get_setI _ ?_; simp; omega) | (refine sl_ops _ ?_; simp) | with_reducible exact set_lD' _ _ _ _ | exact sl_ops _ rfl | assumption | with_reducible exact set_byN _ _ _ _ | with_reducible exact set_byI _ _ _ _ | with_reducible exact set_inN _ _ _ _ | with_reducible exact set_inI _ _ _ _ | with_reducible exact set_stN _ _ _ _ | with_reducible exact set_tsN _ _ _ _ | with_reducible exact set_tsI _ _ _ _ | with_reducible exact set_boN _ _ _ _ | with_reducible exact set_boI _ _ _ _ | (with_reducible refine get_mapN _ _ _ ?_; first | omega | (simp; omega)) | (with_reducible refine get_mapI _ _ _ ?_ ?_ <;> first | omega | (simp; omega)) | exact bs_beq _ _ | exact bs_less _ _ | exact bs_leq _ _ | with_reducible exact bs_app _ _ | (refine bs_get _ _ ?_; omega) | (refine bs_int _ _ ?_ ?_ <;> omega) | with_reducible exact sl_map0 _ _ _ | with_reducible exact sl_mapN _ _ _ | with_reducible exact sl_map _ _ _ _ | exact bs_extract0 _ _ | exact bs_extractN _ _ | exact bs_extract _ _ _ | (refine bnd_id ?_; omega) | (refine bnd_sub ?_ ?_ <;> omega) | (refine bnd_add ?_; omega) | (refine bnd_subN ?_ ?_ <;> omega) | (refine bnd_int ?_ ?_ <;> omega) | ((show @Eq Nat (_ + Int.toNat _ * _) _); simp only [Int.toNat_natCast, Nat.zero_add, Nat.mul_one]; rfl) | ((show @Eq (List _) (List.set [_] _ _) _); simp only [List.set_cons_zero]; rfl) | exact List.length_map _ | exact size_bs _ | (simp only [List.length_map, List.length_append, List.length_cons, List.length_nil, List.length_replicate, Nat.zero_add]; rfl) | with_reducible exact List.nil_append _ | with_reducible exact map_app _ _ _ | exact map_snoc byD _ _ | exact map_snoc inD _ _ | exact map_snoc stD _ _ | exact map_snoc tsD _ _ | (simp only [chunks]; rfl) | (refine wid ?_ ?_ <;> omega) | exact wby _ | with_reducible exact wby32 _ | with_reducible exact wu32 _ | exact wby64 _ | exact shr8 _ | exact shr16 _ | exact shr24 _ | exact shr32 _ | (refine tmodn ?_; omega) | (refine wdiv ?_ ?_ ?_ <;> omega) | exact wbyte _ | exact natlit _ | exact rep_by _ | exact rep_in _ | exact rep_bo _ | exact rep_st _ | (refine pick_nat _ _ _ ?_; omega) | (refine pick_int _ _ _ ?_ ?_ <;> omega) | (refine SlOf.full ?_; first | (simp; done) | (simp; omega)) | (with_reducible refine SlOf.pre _ _ ?_; first | omega | (simp; omega)) | (refine SlF.self _ _ ?_ ?_; (first | rfl | omega | (simp; done) | (simp; omega)); (exact fun _ => rfl)) | (refine SlF.pre _ _ ?_ ?_; (first | omega | (simp; omega)); (exact fun _ => rfl)) | (refine SlF.same ?_ ?_; (first | rfl | omega | (simp; done) | (simp; omega)); (first | exact fz_self _ _ (fun _ => rfl) | exact fz_pl rfl | (refine Fz.append ?_ ?_ <;> first | exact fz_self _ _ (fun _ => rfl) | exact fz_pl rfl) | (refine Fz.append (Fz.append ?_ ?_) ?_ <;> first | exact fz_self _ _ (fun _ => rfl) | exact fz_pl rfl))) | (simp only [Int.toNat_natCast, Nat.zero_add, Nat.mul_one]; rfl) | ((show @Eq (Option CV) _ _); rfl) | ((fail_if_success (show @Eq (Option _) _ _)); rfl) | ((show @Eq (Option _) _ _); simp only [List.getElem?_cons_zero, List.getElem?_cons_succ]; done) | ((show @Eq (Option _) _ _); simp only [List.getElem?_cons_zero, List.getElem?_cons_succ]; rfl) | with_reducible rfl)); conv => whnf))); exact Done.mk trivial))); conv => whnf)
     | (refine Pick.mk ?_ ?_ ?_; rotate_left; (focus (first | (refine get_setI _ ?_; simp; omega) | with_reducible exact set_inI _ _ _ _ | (with_reducible refine get_mapI _ _ _ ?_ ?_ <;> first | omega | (simp; omega)) | (simp only [List.length_map, List.length_append, List.length_cons, List.length_nil, List.length_replicate, Nat.zero_add]; rfl) | ((fail_if_success (show @Eq (Option _) _ _)); rfl))); conv => whnf)
     | (refine OwnQ.mk true ?_; conv => whnf))
   all_goals
    refine Out.mk true [] [] ?_
    try (conv => whnf)
    refine Pick.mk ((l.set v1.toNat { (l[v1.toNat]'(by omega)) with deps := (l[v1.toNat]'(by omega)).deps.set v3.toNat ((IntKind.i64).wrap ((l[v1.toNat]'(by omega)).deps[v3.toNat]'(by omega) + 1)) }).map oD) ?_ ?_
    focus (rw [set_any2 l v1 { (l[v1.toNat]'(by omega)) with deps := (l[v1.toNat]'(by omega)).deps.set v3.toNat ((IntKind.i64).wrap ((l[v1.toNat]'(by omega)).deps[v3.toNat]'(by omega) + 1)) }]; exact sl_ops _ (by simp); simp [oO, splice])
    try (conv => whnf)
    exact ⟨_, _, _, rfl, hS3.mono (by omega), _, rfl, rfl, hX.set (by dsimp only; simp only [List.length_set]; omega)⟩
  ·refine Hand.mk [] ?_
   try (conv => whnf)
   refine CallW.n (s_next hS2 (by omega) 7 (by omega)) ?_
   rintro _ _ ⟨a3, s3, _, rfl, hS3, v3, rfl, rfl, hv3⟩
   try (conv => whnf)
   repeat (first
    | (refine Need.mk ?_ ?_; (focus (first | omega | (simp only [List.length_map, List.length_append, List.length_cons, List.length_nil, List.length_replicate]; omega))); conv => whnf)
    | (refine Pick.mk ?_ ?_ ?_; rotate_left; (focus (first | (with_reducible refine get_mapI _ _ _ ?_ ?_ <;> first | omega | (simp; omega)) | (simp only [List.length_map, List.length_append, List.length_cons, List.length_nil, List.length_replicate, Nat.zero_add]; rfl) | (refine wid ?_ ?_ <;> omega))); conv => whnf)
    | (refine OwnQ.mk true ?_; conv => whnf))
   refine Out.mk true [] [] ?_
   try (conv => whnf)
   refine Pick.mk ((l.set v1.toNat { (l[v1.toNat]'(by omega)) with kind := v3 - 1 }).map oD) ?_ ?_
   focus (rw [set_any l v1 { (l[v1.toNat]'(by omega)) with kind := v3 - 1 }]; exact sl_ops _ (by simp); rfl)
   try (conv => whnf)
   exact ⟨_, _, _, rfl, hS3.mono (by omega), _, rfl, rfl, hX.set (by (try dsimp only); (try simp only [List.length_replicate]); omega)⟩
  ·refine Hand.mk [] ?_
   try (conv => whnf)
   refine CallW.n (s_next hS2 (by omega) 4 (by omega)) ?_
   rintro _ _ ⟨a3, s3, _, rfl, hS3, v3, rfl, rfl, hv3⟩
   try (conv => whnf)
   repeat (refine Need.mk ?_ ?_; (focus (omega)); conv => whnf)
   refine pickJ (fun _ => true) rfl (by rw [addN_eq]; show _ < 4; omega) fun x _ hx => ?_
   try (conv => whnf)
   repeat (first
    | (refine Need.mk ?_ ?_; (focus (first | omega | (simp only [List.length_map, List.length_append, List.length_cons, List.length_nil, List.length_replicate]; omega))); conv => whnf)
    | (refine Pick.mk ?_ ?_ ?_; rotate_left; (focus (first | (with_reducible refine get_mapI _ _ _ ?_ ?_ <;> first | omega | (simp; omega)) | (simp only [List.length_map, List.length_append, List.length_cons, List.length_nil, List.length_replicate, Nat.zero_add]; rfl))); conv => whnf)
    | (refine OwnQ.mk true ?_; conv => whnf))
   refine Out.mk true [] [] ?_
   try (conv => whnf)
   refine Pick.mk ((l.set v1.toNat { (l[v1.toNat]'(by omega)) with obj := x }).map oD) ?_ ?_
   focus (rw [set_any l v1 { (l[v1.toNat]'(by omega)) with obj := x }]; exact sl_ops _ (by simp); rfl)
   try (conv => whnf)
   exact ⟨_, _, _, rfl, hS3.mono (by omega), _, rfl, rfl, hX.set (by (try dsimp only); (try simp only [List.length_replicate]); omega)⟩
  ·refine Hand.mk [] ?_
   try (conv => whnf)
   refine CallW.n (s_next hS2 (by omega) 4 (by omega)) ?_
   rintro _ _ ⟨a3, s3, _, rfl, hS3, v3, rfl, rfl, hv3⟩
   try (conv => whnf)
   repeat (refine Need.mk ?_ ?_; (focus (omega)); conv => whnf)
   refine pickJ (fun _ => true) rfl (by rw [addN_eq]; show _ < 4; omega) fun x _ hx => ?_
   try (conv => whnf)
   repeat (first
    | (refine Need.mk ?_ ?_; (focus (first | omega | (simp only [List.length_map, List.length_append, List.length_cons, List.length_nil, List.length_replicate]; omega))); conv => whnf)
    | (refine Pick.mk ?_ ?_ ?_; rotate_left; (focus (first | (with_reducible refine get_mapI _ _ _ ?_ ?_ <;> first | omega | (simp; omega)) | (simp only [List.length_map, List.length_append, List.length_cons, List.length_nil, List.length_replicate, Nat.zero_add]; rfl))); conv => whnf)
    | (refine OwnQ.mk true ?_; conv => whnf))
   refine Out.mk true [] [] ?_
   try (conv => whnf)
   refine Pick.mk ((l.set v1.toNat { (l[v1.toNat]'(by omega)) with n := x }).map oD) ?_ ?_
   focus (rw [set_any l v1 { (l[v1.toNat]'(by omega)) with n := x }]; exact sl_ops _ (by simp); rfl)
   try (conv => whnf)
   exact ⟨_, _, _, rfl, hS3.mono (by omega), _, rfl, rfl, hX.set (by (try dsimp only); (try simp only [List.length_replicate]); omega)⟩
  ·refine Hand.mk [] ?_
   try (conv => whnf)
   refine CallW.n (s_next hS2 (by omega) 4 (by omega)) ?_
   rintro _ _ ⟨a3, s3, _, rfl, hS3, v3, rfl, rfl, hv3⟩
   try (conv => whnf)
   repeat (first
    | (refine Need.mk ?_ ?_; (focus (first | omega | (simp only [List.length_map, List.length_append, List.length_cons, List.length_nil, List.length_replicate]; omega))); conv => whnf)
    | (refine Pick.mk ?_ ?_ ?_; rotate_left; (focus (first | (with_reducible refine get_mapI _ _ _ ?_ ?_ <;> first | omega | (simp; omega)) | (simp only [List.length_map, List.length_append, List.length_cons, List.length_nil, List.length_replicate, Nat.zero_add]; rfl) | (refine wid ?_ ?_ <;> omega))); conv => whnf)
    | (refine OwnQ.mk true ?_; conv => whnf))
   refine Out.mk true [] [] ?_
   try (conv => whnf)
   refine Pick.mk ((l.set v1.toNat { (l[v1.toNat]'(by omega)) with undo := v3 - 1 }).map oD) ?_ ?_
   focus (rw [set_any l v1 { (l[v1.toNat]'(by omega)) with undo := v3 - 1 }]; exact sl_ops _ (by simp); rfl)
   try (conv => whnf)
   exact ⟨_, _, _, rfl, hS3.mono (by omega), _, rfl, rfl, hX.set (by (try dsimp only); (try simp only [List.length_replicate]); omega)⟩
  ·refine Hand.mk [] ?_
   try (conv => whnf)
   refine CallW.n (s_oddStamp hS2 (by omega)) ?_
   rintro _ _ ⟨a3, s3, _, rfl, hS3, t3, c3, rfl, rfl⟩
   try (conv => whnf)
   repeat (first
    | (refine Need.mk ?_ ?_; (focus (first | omega | (simp only [List.length_map, List.length_append, List.length_cons, List.length_nil, List.length_replicate]; omega))); conv => whnf)
    | (refine Pick.mk ?_ ?_ ?_; rotate_left; (focus (first | (with_reducible refine get_mapI _ _ _ ?_ ?_ <;> first | omega | (simp; omega)) | (simp only [List.length_map, List.length_append, List.length_cons, List.length_nil, List.length_replicate, Nat.zero_add]; rfl))); conv => whnf)
    | (refine OwnQ.mk true ?_; conv => whnf))
   refine Out.mk true [] [] ?_
   try (conv => whnf)
   refine Pick.mk ((l.set v1.toNat { (l[v1.toNat]'(by omega)) with atT := t3, atA := c3 }).map oD) ?_ ?_
   focus (rw [set_any l v1 { (l[v1.toNat]'(by omega)) with atT := t3, atA := c3 }]; exact sl_ops _ (by simp); rfl)
   try (conv => whnf)
   exact ⟨_, _, _, rfl, hS3.mono (by omega), _, rfl, rfl, hX.set (by (try dsimp only); (try simp only [List.length_replicate]); omega)⟩
  ·refine Hand.mk [] ?_
   try (conv => whnf)
   refine CallW.n (s_next hS2 (by omega) 2 (by omega)) ?_
   rintro _ _ ⟨a3, s3, _, rfl, hS3, v3, rfl, rfl, hv3⟩
   try (conv => whnf)
   repeat (first
    | (refine Need.mk ?_ ?_; (focus (omega)); conv => whnf)
    | (refine Pick.mk ?_ ?_ ?_; rotate_left; (focus ((refine wid ?_ ?_ <;> omega))); conv => whnf))
   refine Pick.mk (200 + v3.toNat) (by omega) ?_
   try (conv => whnf)
   repeat (first
    | (refine Need.mk ?_ ?_; (focus (first | omega | (simp only [List.length_map, List.length_append, List.length_cons, List.length_nil, List.length_replicate]; omega))); conv => whnf)
    | (refine Pick.mk ?_ ?_ ?_; rotate_left; (focus (first | (with_reducible refine get_mapI _ _ _ ?_ ?_ <;> first | omega | (simp; omega)) | (simp only [List.length_map, List.length_append, List.length_cons, List.length_nil, List.length_replicate, Nat.zero_add]; rfl) | exact rep_by _ | (refine SlOf.full ?_; first | (simp; done) | (simp; omega)))); conv => whnf)
    | (refine OwnQ.mk true ?_; conv => whnf))
   refine Out.mk true [] [] ?_
   try (conv => whnf)
   refine Pick.mk ((l.set v1.toNat { (l[v1.toNat]'(by omega)) with key := List.replicate (200 + v3.toNat) 0 }).map oD) ?_ ?_
   focus (rw [set_any l v1 { (l[v1.toNat]'(by omega)) with key := List.replicate (200 + v3.toNat) 0 }]; exact sl_ops _ (by simp); rfl)
   try (conv => whnf)
   exact ⟨_, _, _, rfl, hS3.mono (by omega), _, rfl, rfl, hX.set (by (try dsimp only); (try simp only [List.length_replicate]); omega)⟩
  ·refine Out.mk true [] [] ?_
   try (conv => whnf)
   refine Pick.mk ((l.drop 1).map oD) ?_ ?_
   focus (exact ⟨by simp; omega, by rw [List.take_of_length_le (by simp), ← List.map_drop]; exact fz_ops _⟩)
   try (conv => whnf)
   exact ⟨_, _, _, rfl, hS2.mono (by omega), l.drop 1, rfl, rfl, ⟨by have := hX.len; simp; omega, fun o ho => hX.ops o (List.mem_of_mem_drop ho)⟩⟩
  ·refine Out.mk true [] [] ?_
   try (conv => whnf)
   refine Pick.mk ((l.set v1.toNat { (l[v1.toNat]'(by omega)) with seq := (IntKind.i64).wrap ((l[v1.toNat]'(by omega)).seq + 1) }).map oD) ?_ ?_
   focus (rw [set_any l v1 { (l[v1.toNat]'(by omega)) with seq := (IntKind.i64).wrap ((l[v1.toNat]'(by omega)).seq + 1) }]; exact sl_ops _ (by simp); rfl)
   try (conv => whnf)
   exact ⟨_, _, _, rfl, hS2.mono (by omega), _, rfl, rfl, hX.set (by (try dsimp only); (try simp only [List.length_replicate]); omega)⟩
  ·refine Hand.mk [] ?_
   try (conv => whnf)
   refine CallW.n (s_next hS2 (by omega) 3 (by omega)) ?_
   rintro _ _ ⟨a3, s3, _, rfl, hS3, v3, rfl, rfl, hv3⟩
   try (conv => whnf)
   repeat (refine Need.mk ?_ ?_; (focus (omega)); conv => whnf)
   refine pickJ (fun _ => true) rfl (by rw [addN_eq]; show _ < 3; omega) fun x _ hx => ?_
   try (conv => whnf)
   repeat (first
    | (refine Need.mk ?_ ?_; (focus (first | omega | (simp only [List.length_map, List.length_append, List.length_cons, List.length_nil, List.length_replicate]; omega))); conv => whnf)
    | (refine Pick.mk ?_ ?_ ?_; rotate_left; (focus (first | (with_reducible refine get_mapI _ _ _ ?_ ?_ <;> first | omega | (simp; omega)) | (simp only [List.length_map, List.length_append, List.length_cons, List.length_nil, List.length_replicate, Nat.zero_add]; rfl))); conv => whnf)
    | (refine OwnQ.mk true ?_; conv => whnf))
   refine Out.mk true [] [] ?_
   try (conv => whnf)
   refine Pick.mk ((l.set v1.toNat { (l[v1.toNat]'(by omega)) with actor := x }).map oD) ?_ ?_
   focus (rw [set_any l v1 { (l[v1.toNat]'(by omega)) with actor := x }]; exact sl_ops _ (by simp); rfl)
   try (conv => whnf)
   exact ⟨_, _, _, rfl, hS3.mono (by omega), _, rfl, rfl, hX.set (by (try dsimp only); (try simp only [List.length_replicate]); omega)⟩
  ·refine Out.mk true [] [] ?_
   try (conv => whnf)
   refine Pick.mk ((l.set v1.toNat (l[v1.toNat]'(by omega))).map oD) ?_ ?_
   focus (rw [set_any l v1 (l[v1.toNat]'(by omega))]; exact sl_ops _ (by simp); rfl)
   try (conv => whnf)
   exact ⟨_, _, _, rfl, hS2.mono (by omega), _, rfl, rfl, hX.set (by (try dsimp only); (try simp only [List.length_replicate]); omega)⟩
end
end Go.Proofs.Ytpdjehnlejjfmaa.D
/- Two logs as they are drawn. -/
namespace Go.Proofs.Ytpdjehnlejjfmaa.D
open Go.RowKit
set_option maxRecDepth 100000
set_option maxHeartbeats 4000000
set_option linter.unusedVariables false
set_option linter.unusedSimpArgs false
theorem LgX.ins {l : List OpV} {o : OpV} {n : Nat} {t u : Int} (h : LgW n t l) (hn : n ≤ 2 ^ 18) (ho : OpW u o) : LgX (insL l o) := by
 refine ⟨by rw [insL_length]; have := h.len; omega, fun x hx => ?_⟩
 rcases insL_mem.1 hx with rfl | hx
 ·have := ho.deps; have := ho.key; have := ho.text; omega
 ·have := h.ops x hx; have h1 := this.deps; have h2 := this.key; have h3 := this.text; omega
theorem s_l11Draw (code : List UInt8) (hc : code.length ≤ 2 ^ 40) : CallM Try.prog id_spec_l11Draw [vY code] [] [] false fun r Lo => ∃ a b, Lo = [] ∧ r = .tup [(false, [cL a]), (false, [cL b])] ∧ LgX a ∧ LgX b := by
 refine F_spec_l11Draw ?_
 try (conv => whnf)
 refine Hand.mk [] ?_
 try (conv => whnf)
 refine CallW.n (s_l01Source code hc) ?_
 rintro _ _ ⟨s0, rfl, rfl, hS0⟩
 try (conv => whnf)
 refine Hand.mk [] ?_
 try (conv => whnf)
 refine CallW.n (s_l08Grow hS0 (by omega) 24 (by omega) (by omega)) ?_
 rintro _ _ ⟨a1, s1, _, rfl, hS1, ls, rfl, rfl, hls, hw⟩
 try (conv => whnf)
 repeat (refine Pick.mk ?_ ?_ ?_; rotate_left; (focus ((refine pick_int _ _ _ ?_ ?_ <;> omega))); conv => whnf)
 have w0 := hw (ls[(0 : Int).toNat]'(by omega)) (List.getElem_mem _)
 have w1 := hw (ls[(1 : Int).toNat]'(by omega)) (List.getElem_mem _)
 obtain ⟨a, ha⟩ : ∃ a, a = ls[(0 : Int).toNat]'(by omega) := ⟨_, rfl⟩
 obtain ⟨b, hb⟩ : ∃ b, b = ls[(1 : Int).toNat]'(by omega) := ⟨_, rfl⟩
 simp only [← ha] at w0 ⊢
 simp only [← hb] at w1 ⊢
 have x0 : LgX a := w0.x (by omega)
 have x1 : LgX b := w1.x (by omega)
 have l0 := w0.len
 have l1 := w1.len
 refine Hand.mk [] ?_
 try (conv => whnf)
 refine CallW.n (s_next hS1 (by omega) 12 (by omega)) ?_
 rintro _ _ ⟨a2, s2, _, rfl, hS2, v2, rfl, rfl, hv2⟩
 try (conv => whnf)
 try (conv => whnf)
 repeat' (first
  | (refine br_dec (fun _ => ?_) (fun _ => ?_) <;> first | (exfalso; omega) | contradiction | conv => whnf)
  | (refine br_not ?_; conv => whnf)
  | (refine br_bne (fun _ => ?_) (fun _ => ?_) <;> first | (exfalso; omega) | contradiction | conv => whnf)
  | (refine br_beq (fun _ => ?_) (fun _ => ?_) <;> first | (exfalso; omega) | contradiction | conv => whnf))
 ·refine Hand.mk [] ?_
  try (conv => whnf)
  refine CallW.n (s_l08Bent hS2 (by omega) _ _ b w1 (by omega) (by omega)) ?_
  rintro _ _ ⟨a3, s3, _, rfl, hS3, v3, rfl, rfl, hv3⟩
  try (conv => whnf)
  refine Hand.mk [] ?_
  try (conv => whnf)
  refine CallW.k (s_l08CopyF a (by have := x0.len; omega) (fun o ho => by have := (x0.ops o ho).1; omega)) ?_
  try (conv => whnf)
  refine Hand.mk [] ?_
  try (conv => whnf)
  refine CallW.k (s_l08CopyF v3 (by have := hv3.len; omega) (fun o ho => by have := (hv3.ops o ho).1; omega)) ?_
  try (conv => whnf)
  refine Out.mk true [] [] ?_
  try (conv => whnf)
  exact ⟨_, _, rfl, rfl, x0, hv3⟩
 ·refine Hand.mk [] ?_
  try (conv => whnf)
  refine CallW.n (s_l08Some hS2 (by omega) _ b 0 (by omega) w1.ops ⟨by omega, by omega⟩ (by omega) (by omega)) ?_
  rintro _ _ ⟨a3, s3, _, rfl, hS3, v3, rfl, rfl, hv3⟩
  try (conv => whnf)
  refine Hand.mk [] ?_
  try (conv => whnf)
  refine CallW.k (s_l08Insert b v3 (by omega)) ?_
  try (conv => whnf)
  refine Hand.mk [] ?_
  try (conv => whnf)
  refine CallW.n (s_l08Some hS3 (by omega) _ a 0 (by omega) w0.ops ⟨by omega, by omega⟩ (by omega) (by omega)) ?_
  rintro _ _ ⟨a4, s4, _, rfl, hS4, v4, rfl, rfl, hv4⟩
  try (conv => whnf)
  refine Hand.mk [] ?_
  try (conv => whnf)
  refine CallW.k (s_l08Insert a v4 (by omega)) ?_
  try (conv => whnf)
  have y0 : LgX (insL a v4) := LgX.ins w0 (by omega) hv4.1
  have y1 : LgX (insL b v3) := LgX.ins w1 (by omega) hv3.1
  refine Hand.mk [] ?_
  try (conv => whnf)
  refine CallW.k (s_l08CopyF (insL a v4) (by have := y0.len; omega) (fun o ho => by have := (y0.ops o ho).1; omega)) ?_
  try (conv => whnf)
  refine Hand.mk [] ?_
  try (conv => whnf)
  refine CallW.k (s_l08CopyF (insL b v3) (by have := y1.len; omega) (fun o ho => by have := (y1.ops o ho).1; omega)) ?_
  try (conv => whnf)
  refine Out.mk true [] [] ?_
  try (conv => whnf)
  exact ⟨_, _, rfl, rfl, y0, y1⟩
 ·have m0 : ∀ o ∈ a, OpW (2 ^ 50) o := fun o ho => (w0.ops o ho).mono (by omega)
  have m1 : ∀ o ∈ b, OpW (2 ^ 50) o := fun o ho => (w1.ops o ho).mono (by omega)
  refine Hand.mk [] ?_
  try (conv => whnf)
  refine CallW.k (s_l08Make a 4 ⟨0, 0, 0, [], 4, 9, 1, 0, 0, 0, [], []⟩ (by omega) m0 ⟨by omega, by omega⟩ ⟨by simp only; omega, by simp only; omega⟩) ?_
  try (conv => whnf)
  refine Hand.mk [] ?_
  try (conv => whnf)
  refine CallW.k (s_l08Insert a (makeO a 4 ⟨0, 0, 0, [], 4, 9, 1, 0, 0, 0, [], []⟩) (by omega)) ?_
  try (conv => whnf)
  refine Hand.mk [] ?_
  try (conv => whnf)
  refine CallW.k (s_l08Make b 5 ⟨0, 0, 0, [], 1, 9, 0, 0, 0, 0, [107], []⟩ (by omega) m1 ⟨by omega, by omega⟩ ⟨by simp only; omega, by simp only; omega⟩) ?_
  try (conv => whnf)
  refine Hand.mk [] ?_
  try (conv => whnf)
  refine CallW.k (s_l08Insert b (makeO b 5 ⟨0, 0, 0, [], 1, 9, 0, 0, 0, 0, [107], []⟩) (by omega)) ?_
  try (conv => whnf)
  have y0 : LgX (insL a (makeO a 4 ⟨0, 0, 0, [], 4, 9, 1, 0, 0, 0, [], []⟩)) := LgX.ins w0 (by omega) (makeO_w w0.ops ⟨by omega, by omega⟩ (by omega) rfl (by simp) (by simp))
  have y1 : LgX (insL b (makeO b 5 ⟨0, 0, 0, [], 1, 9, 0, 0, 0, 0, [107], []⟩)) := LgX.ins w1 (by omega) (makeO_w w1.ops ⟨by omega, by omega⟩ (by omega) rfl (by simp) (by simp))
  refine Hand.mk [] ?_
  try (conv => whnf)
  refine CallW.k (s_l08CopyF (insL a (makeO a 4 ⟨0, 0, 0, [], 4, 9, 1, 0, 0, 0, [], []⟩)) (by have := y0.len; omega) (fun o ho => by have := (y0.ops o ho).1; omega)) ?_
  try (conv => whnf)
  refine Hand.mk [] ?_
  try (conv => whnf)
  refine CallW.k (s_l08CopyF (insL b (makeO b 5 ⟨0, 0, 0, [], 1, 9, 0, 0, 0, 0, [107], []⟩)) (by have := y1.len; omega) (fun o ho => by have := (y1.ops o ho).1; omega)) ?_
  try (conv => whnf)
  refine Out.mk true [] [] ?_
  try (conv => whnf)
  exact ⟨_, _, rfl, rfl, y0, y1⟩
 ·refine Hand.mk [] ?_
  try (conv => whnf)
  refine CallW.k (s_l08CopyF a (by have := x0.len; omega) (fun o ho => by have := (x0.ops o ho).1; omega)) ?_
  try (conv => whnf)
  refine Hand.mk [] ?_
  try (conv => whnf)
  refine CallW.k (s_l08CopyF b (by have := x1.len; omega) (fun o ho => by have := (x1.ops o ho).1; omega)) ?_
  try (conv => whnf)
  refine Out.mk true [] [] ?_
  try (conv => whnf)
  exact ⟨_, _, rfl, rfl, x0, x1⟩
theorem s_DrawBranchBase (code : List UInt8) (hc : code.length ≤ 2 ^ 40) : CallM Try.prog id_spec_DrawBranchBase [vY code] [] [] false fun r Lo => ∃ a b, Lo = [] ∧ r = .tup [(false, [cL a]), (false, [cL b])] ∧ LgX a ∧ LgX b := by
 refine F_spec_DrawBranchBase ?_
 try (conv => whnf)
 refine Hand.mk [] ?_
 try (conv => whnf)
 refine CallW.n (s_l11Draw code hc) ?_
 rintro _ _ ⟨a, b, rfl, rfl, xa, xb⟩
 refine Out.mk true [] [] ?_
 try (conv => whnf)
 exact ⟨_, _, rfl, rfl, xa, xb⟩
end Go.Proofs.Ytpdjehnlejjfmaa.D
/- The law FnSince, as a call that gives back true. -/
namespace Go.Proofs.Ytpdjehnlejjfmaa.D
open Go.RowKit
set_option maxRecDepth 100000
set_option maxHeartbeats 4000000
set_option linter.unusedVariables false
set_option linter.unusedSimpArgs false
theorem l_sameOp (o : OpV) (h : o.deps.length ≤ 2 ^ 39) : CallD Try.prog id_laws_sameOp [vO o, vO o] [] (vB true) [] := by
 refine F_laws_sameOp ?_
 try (conv => whnf)
 repeat' (first
  | (refine br_dec (fun _ => ?_) (fun _ => ?_) <;> first | (exfalso; omega) | contradiction | conv => whnf)
  | (refine br_not ?_; conv => whnf)
  | (refine br_bne (fun _ => ?_) (fun _ => ?_) <;> first | (exfalso; omega) | contradiction | conv => whnf)
  | (refine br_beq (fun _ => ?_) (fun _ => ?_) <;> first | (exfalso; omega) | contradiction | conv => whnf)
  | (refine br_and ?_; conv => whnf))
 refine Hand.mk [] ?_
 try (conv => whnf)
 refine CallW.d (l_sameInts2 o.deps o.deps (by omega) (by omega)) ?_
 try (conv => whnf)
 try (conv => whnf)
 repeat' (first
  | (refine Pick.mk ?_ ?_ ?_; rotate_left; (focus (exact bs_beq _ _)); conv => whnf)
  | (refine br_dec (fun _ => ?_) (fun _ => ?_) <;> first | (exfalso; omega) | contradiction | conv => whnf)
  | (refine br_not ?_; conv => whnf)
  | (refine br_bne (fun _ => ?_) (fun _ => ?_) <;> first | (exfalso; omega) | contradiction | conv => whnf)
  | (refine br_beq (fun _ => ?_) (fun _ => ?_) <;> first | (exfalso; omega) | contradiction | conv => whnf)
  | (refine br_and ?_; conv => whnf))
 refine Out.mk true [] [] ?_
 try (conv => whnf)
 exact ⟨by simp, rfl⟩
theorem l_sameLog (l : List OpV) (hl : l.length ≤ 2 ^ 39) (hd : ∀ o ∈ l, o.deps.length ≤ 2 ^ 39) : CallD Try.prog id_laws_sameLog [vL l, vL l] [] (vB true) [] := by
 refine F_laws_sameLog ?_
 try (conv => whnf)
 repeat' (first
  | (refine Pick.mk ?_ ?_ ?_; rotate_left; (focus (exact List.length_map _)); conv => whnf)
  | (refine SeqJ.thru ?_; conv => whnf)
  | (refine br_dec (fun _ => ?_) (fun _ => ?_) <;> first | (exfalso; omega) | contradiction | conv => whnf)
  | (refine br_not ?_; conv => whnf)
  | (refine br_bne (fun _ => ?_) (fun _ => ?_) <;> first | (exfalso; omega) | contradiction | conv => whnf)
  | (refine br_beq (fun _ => ?_) (fun _ => ?_) <;> first | (exfalso; omega) | contradiction | conv => whnf))
 refine LoopE.mk (fun i : Nat => mk [(0, vL l), (1, vL l), (5, vI .i64 i)] []) (fun i => i ≤ l.length) (fun i => l.length - i) 0 (by omega) (LeX.of ?_) ?_
 ·try (conv => whnf)
  repeat (refine Need.mk ?_ ?_; (focus (first | omega | (simp; done))); conv => whnf)
  trivial
 ·intro i hi
  try (conv => whnf)
  repeat' (first
   | (refine Pick.mk ?_ ?_ ?_; rotate_left; (focus (first | exact List.length_map _ | (refine pick_nat _ _ _ ?_; omega))); conv => whnf)
   | (refine SeqJ.thru ?_; conv => whnf)
   | (refine br_dec (fun _ => ?_) (fun _ => ?_) <;> first | (exfalso; omega) | contradiction | conv => whnf)
   | (refine br_not ?_; conv => whnf)
   | (refine br_bne (fun _ => ?_) (fun _ => ?_) <;> first | (exfalso; omega) | contradiction | conv => whnf)
   | (refine br_beq (fun _ => ?_) (fun _ => ?_) <;> first | (exfalso; omega) | contradiction | conv => whnf))
  ·refine Hand.mk [] ?_
   try (conv => whnf)
   refine CallW.d (l_sameOp (l[i]'(by omega)) (hd _ (List.getElem_mem _))) ?_
   try (conv => whnf)
   repeat (refine Pick.mk ?_ ?_ ?_; rotate_left; (focus ((refine wid ?_ ?_ <;> omega))); conv => whnf)
   try (conv => whnf)
   repeat' (first
    | (refine br_dec (fun _ => ?_) (fun _ => ?_) <;> first | (exfalso; omega) | contradiction | conv => whnf)
    | (refine br_not ?_; conv => whnf)
    | (refine br_bne (fun _ => ?_) (fun _ => ?_) <;> first | (exfalso; omega) | contradiction | conv => whnf)
    | (refine br_beq (fun _ => ?_) (fun _ => ?_) <;> first | (exfalso; omega) | contradiction | conv => whnf))
   refine Pick.mk (i + 1) (by constructor <;> first | omega | (simp only []; omega)) (LeX.of ?_)
   try (conv => whnf)
   repeat (refine Need.mk ?_ ?_; (focus (first | omega | (simp; done))); conv => whnf)
   trivial
  ·refine Out.mk true [] [] ?_
   try (conv => whnf)
   exact ⟨rfl, rfl⟩
theorem cnts_ok {l : List OpV} (h : LogOk l) : VecOk (cnts l) := ⟨by simp, fun c hc => by
 obtain ⟨i, hi, rfl⟩ := List.mem_iff_getElem.1 hc
 have hi' : i < 16 := by simpa using hi
 rw [cnts_get l hi']
 have := own_le l i
 have := h.len
 simp only [cntOk]; omega⟩
end Go.Proofs.Ytpdjehnlejjfmaa.D
