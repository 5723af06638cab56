/- What the laws do with numbers in a row, and with operations: copied, compared, marked. -/
import Derived.Test.YtpdjehnlejjfmaaJ7
set_option linter.unusedVariables false
set_option linter.unusedSimpArgs false
namespace Go.Proofs.Ytpdjehnlejjfmaa.D
open Go.RowKit
set_option maxRecDepth 100000
set_option maxHeartbeats 4000000
set_option linter.unusedVariables false
set_option linter.unusedSimpArgs false

theorem vI_ext {a b : Int} (h : a = b) : vI .i64 a = vI .i64 b := by rw [h]
theorem l_eqIntS (a b : List Int) (ha : a.length ≤ 2 ^ 39) (hb : b.length ≤ 2 ^ 39) : CallD Try.prog id_laws_eqIntS [vN a, vN b] [] (vB (decide (a = b))) [] := by
 refine F_laws_eqIntS ?_
 try (conv => whnf)
 repeat' (first
  | (refine Pick.mk ?_ ?_ ?_; rotate_left; (focus (exact List.length_map _)); conv => whnf)
  | (refine SeqJ.thru ?_; conv => whnf)
  | (refine br_dec (fun _ => ?_) (fun _ => ?_) <;> first | (exfalso; omega) | contradiction | conv => whnf)
  | (refine br_not ?_; conv => whnf)
  | (refine br_bne (fun _ => ?_) (fun _ => ?_) <;> first | (exfalso; omega) | contradiction | conv => whnf)
  | (refine br_beq (fun _ => ?_) (fun _ => ?_) <;> first | (exfalso; omega) | contradiction | conv => whnf))
 ·refine LoopE.mk (fun i : Nat => mk [(0, vN a), (1, vN b), (5, vI .i64 i)] []) (fun i => i ≤ a.length ∧ a.take i = b.take i) (fun i => a.length - i) 0 (by simp) (LeX.of ?_) ?_
  ·try (conv => whnf)
   repeat (refine Need.mk ?_ ?_; (focus (first | omega | (simp; done))); conv => whnf)
   trivial
  ·rintro i ⟨hi, he⟩
   try (conv => whnf)
   repeat' (first
    | (refine Pick.mk ?_ ?_ ?_; rotate_left; (focus (first | exact List.length_map _ | (refine wid ?_ ?_ <;> omega) | (refine pick_nat _ _ _ ?_; omega))); conv => whnf)
    | (refine SeqJ.thru ?_; conv => whnf)
    | (refine br_dec (fun _ => ?_) (fun _ => ?_) <;> first | (exfalso; omega) | contradiction | conv => whnf)
    | (refine br_not ?_; conv => whnf)
    | (refine br_bne (fun _ => ?_) (fun _ => ?_) <;> first | (exfalso; omega) | contradiction | conv => whnf)
    | (refine br_beq (fun _ => ?_) (fun _ => ?_) <;> first | (exfalso; omega) | contradiction | conv => whnf))
   ·rename_i g1 g2
    refine Pick.mk (i + 1) ⟨⟨by omega, take_eq_step (by omega) (by omega) he (by omega)⟩, by omega⟩ (LeX.of ?_)
    try (conv => whnf)
    repeat (refine Need.mk ?_ ?_; (focus (first | omega | (simp; done))); conv => whnf)
    trivial
   ·rename_i g1 g2
    refine Out.mk true [] [] ?_
    try (conv => whnf)
    have : a ≠ b := by rintro rfl; exact g2 rfl
    simp [this]; exact ⟨trivial⟩
   ·refine Out.mk true [] [] ?_
    try (conv => whnf)
    have : a = b := by rw [List.take_of_length_le (by omega), List.take_of_length_le (by omega)] at he; exact he
    simp [this]; exact ⟨trivial⟩
 ·refine Out.mk true [] [] ?_
  try (conv => whnf)
  have : a ≠ b := by rintro rfl; omega
  simp [this]; exact ⟨trivial⟩
def markIs (k : Int) (n : Nat) : List Int := (List.range n).map fun (i : Nat) => k + i
@[simp] theorem markIs_length (k : Int) (n : Nat) : (markIs k n).length = n := by simp [markIs]
theorem markIs_get (k : Int) {n i : Nat} (h : i < n) : (markIs k n)[i]'(by simpa using h) = k + i := by simp [markIs]
theorem l_eqVector (a : List Int) (ha : a.length ≤ 2 ^ 39) : CallD Try.prog id_laws_eqVector [vV a, vV a] [] (vB true) [] := by
 refine F_laws_eqVector ?_
 try (conv => whnf)
 repeat (refine SeqJ.thru ?_; conv => whnf)
 refine Hand.mk [] ?_
 try (conv => whnf)
 refine CallW.d (l_eqIntS a a ha ha) ?_
 try (conv => whnf)
 try (conv => whnf)
 repeat' (first
  | (refine br_dec (fun _ => ?_) (fun _ => ?_) <;> first | (exfalso; omega) | contradiction | conv => whnf)
  | (refine br_not ?_; conv => whnf)
  | (refine br_bne (fun _ => ?_) (fun _ => ?_) <;> first | (exfalso; omega) | contradiction | conv => whnf)
  | (refine br_beq (fun _ => ?_) (fun _ => ?_) <;> first | (exfalso; omega) | contradiction | conv => whnf))
 refine Out.mk true [] [] ?_
 try (conv => whnf)
 exact ⟨rfl, rfl⟩
theorem l_eqStamp (t a : Int) : CallD Try.prog id_laws_eqStamp [vSt t a, vSt t a] [] (vB true) [] := by
 refine F_laws_eqStamp ?_
 try (conv => whnf)
 repeat' (first
  | (refine SeqJ.thru ?_; conv => whnf)
  | (refine br_dec (fun _ => ?_) (fun _ => ?_) <;> first | (exfalso; omega) | contradiction | conv => whnf)
  | (refine br_not ?_; conv => whnf)
  | (refine br_bne (fun _ => ?_) (fun _ => ?_) <;> first | (exfalso; omega) | contradiction | conv => whnf)
  | (refine br_beq (fun _ => ?_) (fun _ => ?_) <;> first | (exfalso; omega) | contradiction | conv => whnf))
 refine Out.mk true [] [] ?_
 try (conv => whnf)
 exact ⟨rfl, rfl⟩
theorem l_eqOp (o : OpV) (ha : o.deps.length ≤ 2 ^ 39) (hk : o.key.length ≤ 2 ^ 39) (ht : o.text.length ≤ 2 ^ 39) : CallD Try.prog id_laws_eqOp [vO o, vO o] [] (vB true) [] := by
 refine F_laws_eqOp ?_
 try (conv => whnf)
 repeat' (first
  | (refine SeqJ.thru ?_; conv => whnf)
  | (refine br_dec (fun _ => ?_) (fun _ => ?_) <;> first | (exfalso; omega) | contradiction | conv => whnf)
  | (refine br_not ?_; conv => whnf)
  | (refine br_bne (fun _ => ?_) (fun _ => ?_) <;> first | (exfalso; omega) | contradiction | conv => whnf)
  | (refine br_beq (fun _ => ?_) (fun _ => ?_) <;> first | (exfalso; omega) | contradiction | conv => whnf))
 refine Hand.mk [] ?_
 try (conv => whnf)
 refine CallW.d (l_eqVector o.deps ha) ?_
 try (conv => whnf)
 repeat (refine SeqJ.thru ?_; conv => whnf)
 try (conv => whnf)
 repeat' (first
  | (refine SeqJ.thru ?_; conv => whnf)
  | (refine br_dec (fun _ => ?_) (fun _ => ?_) <;> first | (exfalso; omega) | contradiction | conv => whnf)
  | (refine br_not ?_; conv => whnf)
  | (refine br_bne (fun _ => ?_) (fun _ => ?_) <;> first | (exfalso; omega) | contradiction | conv => whnf)
  | (refine br_beq (fun _ => ?_) (fun _ => ?_) <;> first | (exfalso; omega) | contradiction | conv => whnf))
 refine Hand.mk [] ?_
 try (conv => whnf)
 refine CallW.d (l_eqStamp o.atT o.atA) ?_
 try (conv => whnf)
 repeat (first
  | (refine Pick.mk ?_ ?_ ?_; rotate_left; (focus (exact bs_beq _ _)); conv => whnf)
  | (refine SeqJ.thru ?_; conv => whnf))
 try (conv => whnf)
 repeat' (first
  | (refine Pick.mk ?_ ?_ ?_; rotate_left; (focus (exact bs_beq _ _)); conv => whnf)
  | (refine SeqJ.thru ?_; conv => whnf)
  | (refine br_dec (fun _ => ?_) (fun _ => ?_) <;> first | (exfalso; omega) | contradiction | conv => whnf)
  | (refine br_not ?_; conv => whnf)
  | (refine br_bne (fun _ => ?_) (fun _ => ?_) <;> first | (exfalso; omega) | contradiction | conv => whnf)
  | (refine br_beq (fun _ => ?_) (fun _ => ?_) <;> first | (exfalso; omega) | contradiction | conv => whnf))
 refine Out.mk true [] [] ?_
 try (conv => whnf)
 exact ⟨rfl, rfl⟩
end Go.Proofs.Ytpdjehnlejjfmaa.D
/- What the laws do with logs: copied, counted, compared. -/
namespace Go.Proofs.Ytpdjehnlejjfmaa.D
open Go.RowKit
set_option maxRecDepth 100000
set_option maxHeartbeats 4000000
set_option linter.unusedVariables false
set_option linter.unusedSimpArgs false

abbrev vL (l : List OpV) : SV := .one (.dv (.sl (l.map oD)))
abbrev dJ (n : Int) : DV := .sc (.int .i64 n)
theorem l_eqOpS (l : List OpV) (hl : l.length ≤ 2 ^ 39) (hd : ∀ o ∈ l, o.deps.length ≤ 2 ^ 39 ∧ o.key.length ≤ 2 ^ 39 ∧ o.text.length ≤ 2 ^ 39) : CallD Try.prog id_laws_eqOpS [vL l, vL l] [] (vB true) [] := by
 refine F_laws_eqOpS ?_
 try (conv => whnf)
 repeat' (first
  | (refine Pick.mk ?_ ?_ ?_; rotate_left; (focus (exact List.length_map _)); conv => whnf)
  | (refine SeqJ.thru ?_; conv => whnf)
  | (refine br_dec (fun _ => ?_) (fun _ => ?_) <;> first | (exfalso; omega) | contradiction | conv => whnf)
  | (refine br_not ?_; conv => whnf)
  | (refine br_bne (fun _ => ?_) (fun _ => ?_) <;> first | (exfalso; omega) | contradiction | conv => whnf)
  | (refine br_beq (fun _ => ?_) (fun _ => ?_) <;> first | (exfalso; omega) | contradiction | conv => whnf))
 refine LoopE.mk (fun i : Nat => mk [(0, vL l), (1, vL l), (5, vI .i64 i)] []) (fun i => i ≤ l.length) (fun i => l.length - i) 0 (by omega) (LeX.of ?_) ?_
 ·try (conv => whnf)
  repeat (refine Need.mk ?_ ?_; (focus (first | omega | (simp; done))); conv => whnf)
  trivial
 ·intro i hi
  try (conv => whnf)
  repeat' (first
   | (refine Pick.mk ?_ ?_ ?_; rotate_left; (focus (first | exact List.length_map _ | (refine pick_nat _ _ _ ?_; omega))); conv => whnf)
   | (refine SeqJ.thru ?_; conv => whnf)
   | (refine br_dec (fun _ => ?_) (fun _ => ?_) <;> first | (exfalso; omega) | contradiction | conv => whnf)
   | (refine br_not ?_; conv => whnf)
   | (refine br_bne (fun _ => ?_) (fun _ => ?_) <;> first | (exfalso; omega) | contradiction | conv => whnf)
   | (refine br_beq (fun _ => ?_) (fun _ => ?_) <;> first | (exfalso; omega) | contradiction | conv => whnf))
  ·obtain ⟨d1, d2, d3⟩ := hd (l[i]'(by omega)) (List.getElem_mem _)
   refine Hand.mk [] ?_
   try (conv => whnf)
   refine CallW.d (l_eqOp (l[i]'(by omega)) d1 d2 d3) ?_
   try (conv => whnf)
   repeat (refine Pick.mk ?_ ?_ ?_; rotate_left; (focus ((refine wid ?_ ?_ <;> omega))); conv => whnf)
   try (conv => whnf)
   repeat' (first
    | (refine br_dec (fun _ => ?_) (fun _ => ?_) <;> first | (exfalso; omega) | contradiction | conv => whnf)
    | (refine br_not ?_; conv => whnf)
    | (refine br_bne (fun _ => ?_) (fun _ => ?_) <;> first | (exfalso; omega) | contradiction | conv => whnf)
    | (refine br_beq (fun _ => ?_) (fun _ => ?_) <;> first | (exfalso; omega) | contradiction | conv => whnf))
   refine Pick.mk (i + 1) (by constructor <;> first | omega | (simp only []; omega)) (LeX.of ?_)
   try (conv => whnf)
   repeat (refine Need.mk ?_ ?_; (focus (first | omega | (simp; done))); conv => whnf)
   trivial
  ·refine Out.mk true [] [] ?_
   try (conv => whnf)
   exact ⟨rfl, rfl⟩
end Go.Proofs.Ytpdjehnlejjfmaa.D
/- Operations read out of bytes, by the program. -/
namespace Go.Proofs.Ytpdjehnlejjfmaa.D
open Go.RowKit
set_option maxRecDepth 100000
set_option maxHeartbeats 4000000
set_option linter.unusedVariables false
set_option linter.unusedSimpArgs false

def opOfs (n : List Int) (w : List (List UInt8)) : OpV := ⟨n.getD 0 0, n.getD 1 0, n.getD 2 0, n.drop 9, n.getD 3 0, n.getD 4 0, zag (n.getD 5 0).toNat, n.getD 6 0, n.getD 7 0, n.getD 8 0, w.getD 0 [], w.getD 1 []⟩
theorem nine {n : List Int} (h : n.length = 25) : ∃ n0 n1 n2 n3 n4 n5 n6 n7 n8 d, n = n0 :: n1 :: n2 :: n3 :: n4 :: n5 :: n6 :: n7 :: n8 :: d ∧ d.length = 16 := by
 match n, h with
 | n0 :: n1 :: n2 :: n3 :: n4 :: n5 :: n6 :: n7 :: n8 :: d, h => exact ⟨n0, n1, n2, n3, n4, n5, n6, n7, n8, d, rfl, by simpa using h⟩
theorem two {w : List (List UInt8)} (h : w.length = 2) : ∃ s t, w = [s, t] := by
 match w, h with
 | [s, t], _ => exact ⟨s, t, rfl⟩
theorem i_zag' (x z : Int) (h : inM x) (hz : zag x.toNat = z) : CallD Try.prog id_impl_zag [vI .i64 x] [] (vI .i64 z) [] := by
 unfold inM M4 at h
 subst hz
 obtain ⟨z, rfl⟩ : ∃ z : Nat, x = z := ⟨x.toNat, by omega⟩
 exact i_zag z (by omega)
theorem i_opFrom (n : List Int) (z : Int) (s t : List UInt8) (hn : n.length = 25) (h5 : inM (n[5]'(by omega))) (hz : zag (n[5]'(by omega)).toNat = z) :
  CallMD Try.prog id_impl_opFrom [.one (.os (.v 0) 1 0 n.length), vS (bs s), vS (bs t)] [.own 1 (n.map inD)] []
   (.agg [cI (n[0]'(by omega)), cI (n[1]'(by omega)), cI (n[2]'(by omega)), .os (.v 0) 1 9 (n.length - 9), cI (n[3]'(by omega)), cI (n[4]'(by omega)), cI z, cI (n[6]'(by omega)), cI (n[7]'(by omega)), cI (n[8]'(by omega)), cS (bs s), cS (bs t)]) [.own 1 (n.map inD)] := by
 refine F_impl_opFrom ?_
 try (conv => whnf)
 repeat (first
  | (refine Need.mk ?_ ?_; (focus (omega)); conv => whnf)
  | (refine Pick.mk ?_ ?_ ?_; rotate_left; (focus (first | (with_reducible refine get_mapI _ _ _ ?_ ?_ <;> first | omega | (simp; omega)) | (refine bnd_int ?_ ?_ <;> omega))); conv => whnf))
 refine Hand.mk [] ?_
 try (conv => whnf)
 refine CallW.d (i_zag' (n[5]'(by omega)) z h5 hz) ?_
 try (conv => whnf)
 repeat (refine Need.mk ?_ ?_; (focus (((conv => whnf); (repeat (first | (refine Need.mk (by first | rfl | omega | (simp; done)) ?_; conv => whnf) | (refine Pick.mk ?_ ?_ ?_; rotate_left; (focus (first | with_reducible exact xor_u8 _ _ | (with_reducible refine xor_i64 ?_ ?_; all_goals omega) | (with_reducible refine xor_u32 ?_ ?_; all_goals omega) | assumption | with_reducible exact set_byN _ _ _ _ | with_reducible exact set_byI _ _ _ _ | with_reducible exact set_inN _ _ _ _ | with_reducible exact set_inI _ _ _ _ | with_reducible exact set_stN _ _ _ _ | with_reducible exact set_tsN _ _ _ _ | with_reducible exact set_tsI _ _ _ _ | with_reducible exact set_boN _ _ _ _ | with_reducible exact set_boI _ _ _ _ | (with_reducible refine get_mapN _ _ _ ?_; first | omega | (simp; omega)) | (with_reducible refine get_mapI _ _ _ ?_ ?_ <;> first | omega | (simp; omega)) | exact bs_beq _ _ | exact bs_less _ _ | exact bs_leq _ _ | with_reducible exact bs_app _ _ | (refine bs_get _ _ ?_; omega) | (refine bs_int _ _ ?_ ?_ <;> omega) | with_reducible exact sl_map0 _ _ _ | with_reducible exact sl_mapN _ _ _ | with_reducible exact sl_map _ _ _ _ | exact bs_extract0 _ _ | exact bs_extractN _ _ | exact bs_extract _ _ _ | (refine bnd_id ?_; omega) | (refine bnd_sub ?_ ?_ <;> omega) | (refine bnd_add ?_; omega) | (refine bnd_subN ?_ ?_ <;> omega) | (refine bnd_int ?_ ?_ <;> omega) | ((show @Eq Nat (_ + Int.toNat _ * _) _); simp only [Int.toNat_natCast, Nat.zero_add, Nat.mul_one]; rfl) | ((show @Eq (List _) (List.set [_] _ _) _); simp only [List.set_cons_zero]; rfl) | exact List.length_map _ | exact size_bs _ | (simp only [List.length_map, List.length_append, List.length_cons, List.length_nil, List.length_replicate, Nat.zero_add]; rfl) | with_reducible exact List.nil_append _ | with_reducible exact map_app _ _ _ | exact map_snoc byD _ _ | exact map_snoc inD _ _ | exact map_snoc stD _ _ | exact map_snoc tsD _ _ | (simp only [chunks]; rfl) | (refine wid ?_ ?_ <;> omega) | exact wby _ | with_reducible exact wby32 _ | with_reducible exact wu32 _ | exact wby64 _ | exact shr8 _ | exact shr16 _ | exact shr24 _ | exact shr32 _ | (refine tmodn ?_; omega) | (refine wdiv ?_ ?_ ?_ <;> omega) | exact wbyte _ | exact natlit _ | exact rep_by _ | exact rep_in _ | exact rep_bo _ | exact rep_st _ | (refine pick_nat _ _ _ ?_; omega) | (refine pick_int _ _ _ ?_ ?_ <;> omega) | (refine SlOf.full ?_; first | (simp; done) | (simp; omega)) | (with_reducible refine SlOf.pre _ _ ?_; first | omega | (simp; omega)) | (refine SlF.self _ _ ?_ ?_; (first | rfl | omega | (simp; done) | (simp; omega)); (exact fun _ => rfl)) | (refine SlF.pre _ _ ?_ ?_; (first | omega | (simp; omega)); (exact fun _ => rfl)) | (refine SlF.same ?_ ?_; (first | rfl | omega | (simp; done) | (simp; omega)); (first | exact fz_self _ _ (fun _ => rfl) | exact fz_pl rfl | (refine Fz.append ?_ ?_ <;> first | exact fz_self _ _ (fun _ => rfl) | exact fz_pl rfl) | (refine Fz.append (Fz.append ?_ ?_) ?_ <;> first | exact fz_self _ _ (fun _ => rfl) | exact fz_pl rfl))) | (simp only [Int.toNat_natCast, Nat.zero_add, Nat.mul_one]; rfl) | ((show @Eq (Option CV) _ _); rfl) | ((fail_if_success (show @Eq (Option _) _ _)); rfl) | ((show @Eq (Option _) _ _); simp only [List.getElem?_cons_zero, List.getElem?_cons_succ]; done) | ((show @Eq (Option _) _ _); simp only [List.getElem?_cons_zero, List.getElem?_cons_succ]; rfl) | with_reducible rfl)); conv => whnf))); exact Done.mk trivial))); conv => whnf)
 refine Out.mk false [0, 1, 2, 3, 4] [] ?_
 try (conv => whnf)
 repeat (refine Need.mk ?_ ?_; (focus ((first | exact flat_by _ | exact flat_in _ | exact flat_st _ | exact flat_ts _ | exact flat_bo _ | exact flat_cl rfl))); conv => whnf)
 exact ⟨rfl, rfl⟩
theorem i_textsB {l : List UInt8} {a : Nat} (hl : l.length ≤ 2 ^ 40) (ha : a ≤ l.length) :
  CallM Try.prog id_impl_reader_texts [.one (.ptr 0 0)] [rdR l a true] [] false fun r Lo => ∃ b : Nat, Lo = [rdR l b true] ∧ r = .one .nil ∧ b ≤ l.length := by
 refine F_impl_reader_texts ?_
 try (conv => whnf)
 refine Hand.mk [] ?_
 try (conv => whnf)
 refine CallW.n (i_numB hl ha) ?_
 rintro _ _ ⟨b, rfl, rfl, hb⟩
 try (conv => whnf)
 repeat' (first
  | (refine SeqJ.thru ?_; conv => whnf)
  | (refine br_dec (fun _ => ?_) (fun _ => ?_) <;> first | (exfalso; omega) | contradiction | conv => whnf)
  | (refine br_not ?_; conv => whnf)
  | (refine br_bne (fun _ => ?_) (fun _ => ?_) <;> first | (exfalso; omega) | contradiction | conv => whnf)
  | (refine br_beq (fun _ => ?_) (fun _ => ?_) <;> first | (exfalso; omega) | contradiction | conv => whnf))
 refine Out.mk false [0, 1, 2, 3, 4] [] ?_
 try (conv => whnf)
 exact ⟨⟨_, rfl, rfl, hb⟩⟩
def oP (p : List Int × OpV) : List DV := [dJ p.2.actor, dJ p.2.seq, dJ p.2.time, .ow 1 p.1.length p.2.deps.length ((p.1 ++ p.2.deps).map inD), dJ p.2.kind, dJ p.2.obj, dJ p.2.n, dJ p.2.undo, dJ p.2.atT, dJ p.2.atA, .sc (.string (bs p.2.key)), .sc (.string (bs p.2.text))]
theorem fz_opP (p : List Int × OpV) : (oD p.2).map some = (oP p).map fzD := by
 simp only [oP, oD, fzD, List.map_cons, List.map_nil, List.map_append]
 rw [List.drop_left' (by simp), List.take_of_length_le (by simp)]
theorem fz_opsP (l : List (List Int × OpV)) : Fz (l.map oP) ((l.map (·.2)).map oD) := by rw [List.map_map]; exact Fz.map _ _ _ fz_opP
theorem sl_opsP {l : List (List Int × OpV)} {L : List OpV} (h : l.map (·.2) = L) {n : Nat} (hn : n = L.length) : SlF (l.map oP) 0 n (L.map oD) := by
 subst h
 exact SlF.full (by simpa using hn) (fz_opsP l)
theorem flat_oP (l : List (List Int × OpV)) : flatEs (l.map oP) := fun e he d hd => by
 obtain ⟨o, _, rfl⟩ := List.mem_map.1 he
 simp only [oP, List.mem_cons, List.not_mem_nil, or_false] at hd
 rcases hd with rfl | rfl | rfl | rfl | rfl | rfl | rfl | rfl | rfl | rfl | rfl | rfl <;> first | rfl | simp [flatD, List.all_map]
theorem SlF.from {α : Type} (l : List α) (f : α → List DV) {a n : Nat} (h : n = l.length - a) (ha : a ≤ l.length) (hf : ∀ a, (f a).map some = (f a).map fzD) : SlF (l.map f) a n ((l.drop a).map f) :=
 SlF.of ⟨by simp; omega, by rw [← List.map_drop, List.take_of_length_le (by simp; omega)]⟩ (fz_self _ _ hf)
abbrev goodP (p : List Int × OpV) : Prop := p.1.length = 9 ∧ p.2.deps.length = 16
theorem snoc_oP {out : List (List Int × OpV)} {n : List Int} {o : OpV} (hn : n.length = 25) (hd : n.drop 9 = o.deps) :
  out.map oP ++ [[dJ o.actor, dJ o.seq, dJ o.time, .ow 1 9 (n.length - 9) (n.map inD), dJ o.kind, dJ o.obj, dJ o.n, dJ o.undo, dJ o.atT, dJ o.atA, .sc (.string (bs o.key)), .sc (.string (bs o.text))]] = (out ++ [(n.take 9, o)]).map oP := by
 have h1 : (n.take 9).length = 9 := by simp; omega
 have h2 : o.deps.length = n.length - 9 := by rw [← hd]; simp
 have h3 : n.take 9 ++ o.deps = n := by rw [← hd, List.take_append_drop]
 simp only [List.map_append, List.map_cons, List.map_nil, oP, h1, h2, h3]
end Go.Proofs.Ytpdjehnlejjfmaa.D
/- Operations read out of bytes, by the reference. -/
namespace Go.Proofs.Ytpdjehnlejjfmaa.D
open Go.RowKit
set_option maxRecDepth 100000
set_option maxHeartbeats 4000000
set_option linter.unusedVariables false
set_option linter.unusedSimpArgs false

theorem s_textsB {l : List UInt8} {a : Nat} (hl : l.length ≤ 2 ^ 40) (ha : a ≤ l.length) :
  CallM Try.prog id_spec_l01Reader_texts [.one (.ptr 0 0)] [rdR l a true] [] false fun r Lo => ∃ b : Nat, Lo = [rdR l b true, .own 1 []] ∧ r = .one (.os (.v 1) 1 0 0) ∧ b ≤ l.length := by
 refine F_spec_l01Reader_texts ?_
 try (conv => whnf)
 repeat (refine Pick.mk ?_ ?_ ?_; rotate_left; (focus ((simp only [chunks]; rfl))); conv => whnf)
 refine Hand.mk [] ?_
 try (conv => whnf)
 refine CallW.n (s_countB hl ha) ?_
 rintro _ _ ⟨b, rfl, rfl, hb⟩
 try (conv => whnf)
 refine LoopE.mk (fun (_ : Nat) => mk [(0, .one (.ptr 0 0)), (3, .one (.os (.v 8192) 1 0 0)), (6, vI .i64 0)] [(0, rdR l b true), (8192, .own 1 [])]) (fun _ => True) (fun x => x) 0 trivial (LeX.of ?_) ?_
 ·try (conv => whnf)
  repeat (refine Need.mk ?_ ?_; (focus (first | omega | (simp; done))); conv => whnf)
  trivial
 ·rintro _ -
  try (conv => whnf)
  repeat' (first
   | (refine SeqJ.thru ?_; conv => whnf)
   | (refine br_dec (fun _ => ?_) (fun _ => ?_) <;> first | (exfalso; omega) | contradiction | conv => whnf)
   | (refine br_not ?_; conv => whnf)
   | (refine br_bne (fun _ => ?_) (fun _ => ?_) <;> first | (exfalso; omega) | contradiction | conv => whnf)
   | (refine br_beq (fun _ => ?_) (fun _ => ?_) <;> first | (exfalso; omega) | contradiction | conv => whnf))
  refine Out.mk false [0, 1, 2, 3, 4] [] ?_
  try (conv => whnf)
  exact ⟨b, rfl, rfl, hb⟩
theorem opOfs_at {xs : List Int} {ts : List (List UInt8)} {z : Int} (hn : xs.length = 25) (hw : ts.length = 2) (hz : zag (xs[5]'(by omega)).toNat = z) : opOfs xs ts = ⟨xs[0]'(by omega), xs[1]'(by omega), xs[2]'(by omega), xs.drop 9, xs[3]'(by omega), xs[4]'(by omega), z, xs[6]'(by omega), xs[7]'(by omega), xs[8]'(by omega), ts[0]'(by omega), ts[1]'(by omega)⟩ := by
 subst hz
 simp only [opOfs, List.getD_eq_getElem?_getD]
 simp only [List.getElem?_eq_getElem (show 0 < xs.length by omega), List.getElem?_eq_getElem (show 1 < xs.length by omega), List.getElem?_eq_getElem (show 2 < xs.length by omega), List.getElem?_eq_getElem (show 3 < xs.length by omega), List.getElem?_eq_getElem (show 4 < xs.length by omega), List.getElem?_eq_getElem (show 5 < xs.length by omega), List.getElem?_eq_getElem (show 6 < xs.length by omega), List.getElem?_eq_getElem (show 7 < xs.length by omega), List.getElem?_eq_getElem (show 8 < xs.length by omega), List.getElem?_eq_getElem (show 0 < ts.length by omega), List.getElem?_eq_getElem (show 1 < ts.length by omega), Option.getD_some]
theorem SlOf.from {α : Type} (l : List α) (f : α → List DV) {a n : Nat} (h : n = l.length - a) (ha : a ≤ l.length) : SlOf (l.map f) a n ((l.drop a).map f) :=
 ⟨by simp; omega, by rw [← List.map_drop, List.take_of_length_le (by simp; omega)]⟩
end Go.Proofs.Ytpdjehnlejjfmaa.D
/- A log read out of bytes, plainly. -/
namespace Go.Proofs.Ytpdjehnlejjfmaa.D
open Go.RowKit
set_option maxRecDepth 100000
set_option linter.unusedVariables false
set_option linter.unusedSimpArgs false

def rowN (cs : List (List Int)) (i : Nat) : List Int := cs.map fun c => c.getD i 0
def opAt (cs : List (List Int)) (ks ts : List (List UInt8)) (i : Nat) : OpV := opOfs (rowN cs i) [ks.getD i [], ts.getD i []]
def logOf (cs : List (List Int)) (ks ts : List (List UInt8)) (n : Nat) : List OpV := (List.range n).map (opAt cs ks ts)
def colsL (l : List OpV) (n : Nat) : List (List Int) := (List.range n).map (colL l)
def colsP (cs : List (List Int)) : List UInt8 := (cs.map putR).flatten
@[simp] theorem rowN_length (cs : List (List Int)) (i : Nat) : (rowN cs i).length = cs.length := by simp [rowN]
@[simp] theorem logOf_length (cs : List (List Int)) (ks ts : List (List UInt8)) (n : Nat) : (logOf cs ks ts n).length = n := by simp [logOf]
@[simp] theorem colsL_length (l : List OpV) (n : Nat) : (colsL l n).length = n := by simp [colsL]
theorem colsL_succ (l : List OpV) (n : Nat) : colsL l (n + 1) = colsL l n ++ [colL l n] := by simp [colsL, List.range_succ]
theorem colsP_snoc (cs : List (List Int)) (c : List Int) : colsP (cs ++ [c]) = colsP cs ++ putR c := by simp [colsP]
theorem colsB_P (l : List OpV) : ∀ n, colsB l n = colsP (colsL l n)
 | 0 => rfl
 | n + 1 => by rw [colsL_succ, colsP_snoc, ← colsB_P l n]; rfl
theorem opOfs_nums {o : OpV} : opOfs (nums o ++ o.deps) [o.key, o.text] = o := by
 obtain ⟨a, s, t, d, k, ob, n, u, p, q, x, y⟩ := o
 simp only [opOfs, nums, List.cons_append, List.nil_append, List.getD_cons_zero, List.getD_cons_succ, List.drop_succ_cons, List.drop_zero, Int.toNat_natCast, zag_zig]
theorem nums_opOfs {n : List Int} {w : List (List UInt8)} (hn : n.length = 25) (h5 : ∀ x ∈ n, inM x) : nums (opOfs n w) ++ (opOfs n w).deps = n := by
 obtain ⟨n0, n1, n2, n3, n4, n5, n6, n7, n8, d, rfl, hd⟩ := nine hn
 have h := h5 n5 (by simp)
 have e : (zig (zag n5.toNat) : Int) = n5 := by rw [zig_zag]; unfold inM at h; omega
 simp only [nums, opOfs, List.getD_cons_zero, List.getD_cons_succ, List.drop_succ_cons, List.drop_zero, e, List.cons_append, List.nil_append]
theorem rowN_colsL {l : List OpV} {i : Nat} (h : i < l.length) (hd : (l[i]).deps.length = 16) : rowN (colsL l 25) i = nums l[i] ++ (l[i]).deps := by
 have hl : (nums l[i] ++ (l[i]).deps).length = 25 := by simp [nums, hd]
 apply List.ext_getElem
 ·simp [hl]
 ·intro j h1 h2
  have hj : j < 25 := by simpa using h1
  simp only [rowN, colsL, List.getElem_map, List.getElem_range, colL]
  rw [List.getD_eq_getElem?_getD, List.getElem?_map, List.getElem?_eq_getElem h]
  simp only [Option.map_some, Option.getD_some, colV]
  rw [List.getD_eq_getElem?_getD, List.getElem?_eq_getElem h2]; rfl
theorem logOf_self {l : List OpV} (hd : ∀ o ∈ l, o.deps.length = 16) : logOf (colsL l 25) (keysOf l) (textsOf l) l.length = l := by
 apply List.ext_getElem
 ·simp
 ·intro i h1 h2
  simp only [logOf, List.getElem_map, List.getElem_range, opAt]
  rw [rowN_colsL h2 (hd _ (List.getElem_mem _))]
  have e1 : (keysOf l).getD i [] = l[i].key := by rw [keysOf, List.getD_eq_getElem?_getD, List.getElem?_map, List.getElem?_eq_getElem h2]; rfl
  have e2 : (textsOf l).getD i [] = l[i].text := by rw [textsOf, List.getD_eq_getElem?_getD, List.getElem?_map, List.getElem?_eq_getElem h2]; rfl
  rw [e1, e2, opOfs_nums]
structure ColsOk (cs : List (List Int)) (n : Nat) : Prop where
 len : cs.length = 25
 all : ∀ c ∈ cs, c.length = n ∧ ∀ x ∈ c, inM x
theorem rowN_in {cs : List (List Int)} {n : Nat} (h : ColsOk cs n) {i : Nat} (hi : i < n) : ∀ x ∈ rowN cs i, inM x := fun x hx => by
 obtain ⟨c, hc, rfl⟩ := List.mem_map.1 hx
 obtain ⟨h1, h2⟩ := h.all c hc
 rw [List.getD_eq_getElem?_getD, List.getElem?_eq_getElem (by omega)]
 exact h2 _ (List.getElem_mem _)
theorem colL_logOf {cs : List (List Int)} {n : Nat} (h : ColsOk cs n) (ks ts : List (List UInt8)) {c : Nat} (hc : c < 25) : colL (logOf cs ks ts n) c = cs[c]'(by rw [h.len]; exact hc) := by
 have hcl := h.len
 obtain ⟨h1, h2⟩ := h.all _ (List.getElem_mem (show c < cs.length by omega))
 apply List.ext_getElem
 ·simp [h1]
 ·intro i g1 g2
  have hi : i < n := by simpa using g1
  simp only [colL, logOf, List.getElem_map, List.getElem_range, opAt, colV]
  rw [nums_opOfs (by simp [hcl]) (rowN_in h hi), rowN, List.getD_eq_getElem?_getD, List.getElem?_map, List.getElem?_eq_getElem (by omega)]
  simp only [Option.map_some, Option.getD_some]
  rw [List.getD_eq_getElem?_getD, List.getElem?_eq_getElem g2]; rfl
theorem colsL_logOf {cs : List (List Int)} {n : Nat} (h : ColsOk cs n) (ks ts : List (List UInt8)) : colsL (logOf cs ks ts n) 25 = cs := by
 have hcl := h.len
 apply List.ext_getElem
 ·simp [hcl]
 ·intro c g1 g2
  simp only [colsL, List.getElem_map, List.getElem_range]
  exact colL_logOf h ks ts (by omega)
theorem wordsOf_at (ks : List (List UInt8)) (n : Nat) (h : ks.length = n) : (List.range n).map (fun i => ks.getD i []) = ks := by
 apply List.ext_getElem
 ·simp [h]
 ·intro i g1 g2
  simp only [List.getElem_map, List.getElem_range]
  rw [List.getD_eq_getElem?_getD, List.getElem?_eq_getElem g2]; rfl
theorem keysOf_logOf (cs : List (List Int)) {ks : List (List UInt8)} (ts : List (List UInt8)) {n : Nat} (h : ks.length = n) : keysOf (logOf cs ks ts n) = ks := by
 rw [keysOf, logOf, List.map_map]
 exact wordsOf_at ks n h
theorem textsOf_logOf (cs : List (List Int)) (ks : List (List UInt8)) {ts : List (List UInt8)} {n : Nat} (h : ts.length = n) : textsOf (logOf cs ks ts n) = ts := by
 rw [textsOf, logOf, List.map_map]
 exact wordsOf_at ts n h
theorem logB0_logOf {cs : List (List Int)} {ks ts : List (List UInt8)} {n : Nat} (h : ColsOk cs n) (hk : ks.length = n) (ht : ts.length = n) : logB0 (logOf cs ks ts n) = colsP cs ++ putT ks ++ putT ts := by
 rw [logB0, colsB_P, colsL_logOf h, keysOf_logOf cs ts hk, textsOf_logOf cs ks ht]
theorem colsB_pre (l : List OpV) (c : Nat) : ∀ k, ∃ m, colsB l (c + k) = colsB l c ++ m
 | 0 => ⟨[], by simp⟩
 |k + 1 => by
  obtain ⟨m, hm⟩ := colsB_pre l c k
  exact ⟨m ++ putR (colL l (c + k)), by rw [← Nat.add_assoc, colsB, hm, List.append_assoc]⟩
theorem logB0_at (l : List OpV) {c : Nat} (hc : c < 25) : ∃ m, logB0 l = colsB l c ++ (putR (colL l c) ++ m) := by
 obtain ⟨m, hm⟩ := colsB_pre l (c + 1) (24 - c)
 rw [show c + 1 + (24 - c) = 25 by omega] at hm
 exact ⟨m ++ (putT (keysOf l) ++ putT (textsOf l)), by rw [logB0, hm, colsB]; simp only [List.append_assoc]⟩
def Thru (l : List UInt8) (cs : List (List Int)) (a : Nat) : Prop := ∀ L, LogOk L → logB0 L = l → cs = colsL L cs.length ∧ a = (colsB L cs.length).length
def NoLog (l : List UInt8) : Prop := ∀ L, LogOk L → logB0 L ≠ l
theorem thru_nil (l : List UInt8) : Thru l [] 0 := fun L _ _ => ⟨rfl, rfl⟩
theorem thru_read {l : List UInt8} {cs : List (List Int)} {a : Nat} (h : Thru l cs a) (hc : cs.length < 25) {L : List OpV} (hL : LogOk L) (hl : logB0 L = l) : getR l a = some (colL L cs.length, (colsB L (cs.length + 1)).length) := by
 obtain ⟨h1, h2⟩ := h L hL hl
 obtain ⟨m, hm⟩ := logB0_at L hc
 have hle := hL.len
 have := getR_put (xs := colL L cs.length) (colL_in hL.good.all hc) (by simp; omega) (colsB L cs.length) m
 rw [← hm, hl, ← h2] at this
 rw [this, colsB, List.length_append, ← h2]
theorem thru_read0 {l : List UInt8} {cs : List (List Int)} {a : Nat} (h : Thru l cs a) (hc : cs.length < 25) {L : List OpV} (hL : LogOk L) (hl : logB0 L = l) : getR0 l a = some (colL L cs.length, (colsB L (cs.length + 1)).length) := by
 obtain ⟨h1, h2⟩ := h L hL hl
 obtain ⟨m, hm⟩ := logB0_at L hc
 have hle := hL.len
 have := getR0_put (xs := colL L cs.length) (colL_in hL.good.all hc) (by simp; omega) (colsB L cs.length) m
 rw [← hm, hl, ← h2] at this
 rw [this, colsB, List.length_append, ← h2]
theorem thru_none {l : List UInt8} {cs : List (List Int)} {a : Nat} (h : Thru l cs a) (hc : cs.length < 25) (hr : getR l a = none) : NoLog l := fun L hL hl => by
 rw [thru_read h hc hL hl] at hr; simp at hr
theorem thru_none0 {l : List UInt8} {cs : List (List Int)} {a : Nat} (h : Thru l cs a) (hc : cs.length < 25) (hr : getR0 l a = none) : NoLog l := fun L hL hl => by
 rw [thru_read0 h hc hL hl] at hr; simp at hr
theorem thru_snoc {l : List UInt8} {cs : List (List Int)} {a b : Nat} {xs : List Int} (h : Thru l cs a) (hc : cs.length < 25) (hr : getR l a = some (xs, b)) : Thru l (cs ++ [xs]) b := fun L hL hl => by
 obtain ⟨h1, h2⟩ := h L hL hl
 rw [thru_read h hc hL hl] at hr
 simp only [Option.some.injEq, Prod.mk.injEq] at hr
 obtain ⟨rfl, rfl⟩ := hr
 simp only [List.length_append, List.length_singleton]
 refine ⟨?_, trivial⟩
 rw [colsL_succ, ← h1]
theorem thru_snoc0 {l : List UInt8} {cs : List (List Int)} {a b : Nat} {xs : List Int} (h : Thru l cs a) (hc : cs.length < 25) (hr : getR0 l a = some (xs, b)) : Thru l (cs ++ [xs]) b := fun L hL hl => by
 obtain ⟨h1, h2⟩ := h L hL hl
 rw [thru_read0 h hc hL hl] at hr
 simp only [Option.some.injEq, Prod.mk.injEq] at hr
 obtain ⟨rfl, rfl⟩ := hr
 simp only [List.length_append, List.length_singleton]
 refine ⟨?_, trivial⟩
 rw [colsL_succ, ← h1]
theorem thru_len {l : List UInt8} {cs : List (List Int)} {a : Nat} (h : Thru l cs a) (hne : ∃ c ∈ cs, ∃ d ∈ cs, c.length ≠ d.length) : NoLog l := fun L hL hl => by
 obtain ⟨h1, h2⟩ := h L hL hl
 obtain ⟨c, hc, d, hd, hne⟩ := hne
 rw [h1] at hc hd
 obtain ⟨i, _, rfl⟩ := List.mem_map.1 hc
 obtain ⟨j, _, rfl⟩ := List.mem_map.1 hd
 simp at hne
theorem thru_keys {l : List UInt8} {cs : List (List Int)} {a : Nat} (h : Thru l cs a) (hc : cs.length = 25) {L : List OpV} (hL : LogOk L) (hl : logB0 L = l) :
  getT l a = some (keysOf L, a + (putT (keysOf L)).length) ∧ getT l (a + (putT (keysOf L)).length) = some (textsOf L, l.length) := by
 obtain ⟨h1, h2⟩ := h L hL hl
 rw [hc] at h2
 have hle := hL.len
 have hw := words_total hL.good.all
 have e1 := getT_put (ts := keysOf L) (by simp only [MaxB]; omega) (by simp; omega) (colsB L 25) (putT (textsOf L))
 have e2 := getT_put (ts := textsOf L) (by simp only [MaxB]; omega) (by simp; omega) (colsB L 25 ++ putT (keysOf L)) []
 have hl' : colsB L 25 ++ (putT (keysOf L) ++ putT (textsOf L)) = l := by rw [← hl, logB0, List.append_assoc]
 rw [hl', ← h2] at e1
 rw [List.append_nil, List.append_assoc, hl', List.length_append, ← h2] at e2
 refine ⟨e1, ?_⟩
 rw [e2]
 have := congrArg List.length hl'
 simp only [List.length_append] at this
 simp only [Option.some.injEq, Prod.mk.injEq, true_and]
 omega
theorem thru_keys_none {l : List UInt8} {cs : List (List Int)} {a : Nat} (h : Thru l cs a) (hc : cs.length = 25) (hr : getT l a = none) : NoLog l := fun L hL hl => by
 rw [(thru_keys h hc hL hl).1] at hr; simp at hr
theorem thru_texts_none {l : List UInt8} {cs : List (List Int)} {a b : Nat} {ks : List (List UInt8)} (h : Thru l cs a) (hc : cs.length = 25) (hr : getT l a = some (ks, b)) (ht : getT l b = none) : NoLog l := fun L hL hl => by
 obtain ⟨g1, g2⟩ := thru_keys h hc hL hl
 rw [g1] at hr
 simp only [Option.some.injEq, Prod.mk.injEq] at hr
 obtain ⟨rfl, rfl⟩ := hr
 rw [g2] at ht; simp at ht
theorem thru_end {l : List UInt8} {cs : List (List Int)} {a b d : Nat} {ks ts : List (List UInt8)} (h : Thru l cs a) (hc : cs.length = 25) (hr : getT l a = some (ks, b)) (ht : getT l b = some (ts, d)) {L : List OpV} (hL : LogOk L) (hl : logB0 L = l) :
  d = l.length ∧ (∀ c ∈ cs, c.length = L.length) ∧ ks.length = L.length ∧ ts.length = L.length ∧ logOf cs ks ts L.length = L := by
 obtain ⟨g1, g2⟩ := thru_keys h hc hL hl
 obtain ⟨h1, h2⟩ := h L hL hl
 rw [g1] at hr
 simp only [Option.some.injEq, Prod.mk.injEq] at hr
 obtain ⟨rfl, rfl⟩ := hr
 rw [g2] at ht
 simp only [Option.some.injEq, Prod.mk.injEq] at ht
 obtain ⟨rfl, rfl⟩ := ht
 rw [hc] at h1
 refine ⟨rfl, fun c hcm => ?_, by simp, by simp, ?_⟩
 ·rw [h1] at hcm
  obtain ⟨i, _, rfl⟩ := List.mem_map.1 hcm
  simp
 ·rw [h1, logOf_self fun o ho => (hL.good.all o ho).vec.1]
def ColsAt (l : List UInt8) (cs : List (List Int)) (a : Nat) : Prop := a ≤ l.length ∧ l.take a = colsP cs ∧ ∀ c ∈ cs, ∀ x ∈ c, inM x
theorem colsAt_nil (l : List UInt8) : ColsAt l [] 0 := ⟨by omega, by simp [colsP], by simp⟩
theorem colsAt_snoc {l : List UInt8} {cs : List (List Int)} {a b : Nat} {xs : List Int} (h : ColsAt l cs a) (hr : getR l a = some (xs, b)) : ColsAt l (cs ++ [xs]) b := by
 obtain ⟨h1, h2, h3⟩ := h
 obtain ⟨g1, g2, g3, g4, g5⟩ := getR_inv hr
 refine ⟨g2, ?_, fun c hc => ?_⟩
 ·have hta : (l.take a).length = a := by simp; omega
  have hb : (l.take a ++ putR xs).length = b := by
   have := congrArg List.length g3
   simp only [List.length_append, List.length_drop, hta] at this ⊢
   omega
  conv => lhs; rw [g3, ← List.append_assoc]
  rw [List.take_left' hb, colsP_snoc, h2]
 ·rcases List.mem_append.1 hc with hc | hc
  ·exact h3 c hc
  ·simp only [List.mem_singleton] at hc; subst hc; exact g4
theorem colsAt_end {l : List UInt8} {cs : List (List Int)} {a b n : Nat} {ks ts : List (List UInt8)} (h : ColsAt l cs a) (hc : ColsOk cs n) (hk : ks.length = n) (ht : ts.length = n) (hr : getT l a = some (ks, b)) (hs : getT l b = some (ts, l.length)) : logB0 (logOf cs ks ts n) = l := by
 obtain ⟨h1, h2, h3⟩ := h
 obtain ⟨g1, g2, g3, g4, g5⟩ := getT_inv hr
 obtain ⟨k1, k2, k3, k4, k5⟩ := getT_inv hs
 rw [logB0_logOf hc hk ht, ← h2]
 have hta : (l.take a).length = a := by simp; omega
 have hb : (l.take a ++ putT ks).length = b := by
  have := congrArg List.length g3
  simp only [List.length_append, List.length_drop, hta] at this ⊢
  omega
 have e : l.take b = l.take a ++ putT ks := by
  conv => lhs; rw [g3, ← List.append_assoc]
  rw [List.take_left' hb]
 conv => rhs; rw [k3]
 rw [e, List.drop_length, List.append_nil]
def rlErr (b : List UInt8) : Int := if b.length > 1048576 then 2 else if b.length < 4 ∨ four (sumH 2166136261 (b.take (b.length - 4))) ≠ b.drop (b.length - 4) then 10 else 3
def RlA (b : List UInt8) (c : Int) (L : List OpV) : Prop := (c = 0 ∧ LogOk L ∧ logB L = b) ∨ (c = rlErr b ∧ L = [] ∧ ∀ L', LogOk L' → logB L' ≠ b)
theorem logB_inj {L M : List OpV} (hL : LogOk L) (hM : LogOk M) (h : logB L = logB M) : L = M := by
 have e : logB0 L = logB0 M := by
  simp only [logB] at h
  have hl := congrArg List.length h
  simp only [List.length_append, four_length] at hl
  exact (List.append_inj h (by omega)).1
 have t : Thru (logB0 L) (colsL L 25) (colsB L 25).length := by
  have : ∀ n, n ≤ 25 → Thru (logB0 L) (colsL L n) (colsB L n).length := fun n => by
   induction n with
   | zero => intro _; exact thru_nil _
   | succ n ih =>
    intro hn
    have h1 := ih (by omega)
    have h2 := thru_read h1 (by simp; omega) hL rfl
    simp only [colsL_length] at h2
    have h3 := thru_snoc h1 (by simp; omega) h2
    rwa [← colsL_succ] at h3
  exact this 25 (by omega)
 obtain ⟨g1, g2⟩ := thru_keys t (by simp) hL rfl
 obtain ⟨_, _, k3, _, k5⟩ := thru_end t (by simp) g1 g2 hM e.symm
 obtain ⟨_, _, j3, _, j5⟩ := thru_end t (by simp) g1 g2 hL rfl
 have : L.length = M.length := by omega
 exact (j5.symm.trans (by rw [this])).trans k5
theorem RlA.uniq {b : List UInt8} {c d : Int} {L M : List OpV} (h : RlA b c L) (g : RlA b d M) : c = d ∧ L = M := by
 rcases h with ⟨h1, h2, h3⟩ | ⟨h1, h2, h3⟩ <;> rcases g with ⟨g1, g2, g3⟩ | ⟨g1, g2, g3⟩
 ·exact ⟨by rw [h1, g1], logB_inj h2 g2 (by rw [h3, g3])⟩
 ·exact absurd h3 (g3 L h2)
 ·exact absurd g3 (h3 M g2)
 ·exact ⟨by rw [h1, g1], by rw [h2, g2]⟩
theorem rl_long {b : List UInt8} (h : b.length > 1048576) : RlA b 2 [] := .inr ⟨by rw [rlErr, if_pos h], rfl, fun L hL e => by have := logB_len hL; rw [e] at this; omega⟩
theorem rl_sum {b : List UInt8} (h : ¬ b.length > 1048576) (h2 : b.length < 4 ∨ four (sumH 2166136261 (b.take (b.length - 4))) ≠ b.drop (b.length - 4)) : RlA b 10 [] := .inr ⟨by rw [rlErr, if_neg h, if_pos h2], rfl, fun L hL e => by
 subst e
 simp only [logB, List.length_append, four_length, Nat.add_sub_cancel, List.take_left', List.drop_left'] at h2
 rcases h2 with h2 | h2
 ·omega
 ·exact h2 rfl⟩
theorem rl_form {b : List UInt8} (h : ¬ b.length > 1048576) (h4 : ¬ b.length < 4) (h2 : four (sumH 2166136261 (b.take (b.length - 4))) = b.drop (b.length - 4)) (hn : NoLog (b.take (b.length - 4))) : RlA b 3 [] := .inr ⟨by rw [rlErr, if_neg h, if_neg]; rintro (g | g); exact h4 g; exact g h2, rfl, fun L hL e => hn L hL (by
 subst e
 simp only [logB, List.length_append, four_length, Nat.add_sub_cancel, List.take_left'])⟩
theorem rl_good {b : List UInt8} {L : List OpV} (h4 : ¬ b.length < 4) (h2 : four (sumH 2166136261 (b.take (b.length - 4))) = b.drop (b.length - 4)) (hL : LogOk L) (h : logB0 L = b.take (b.length - 4)) : RlA b 0 L := .inl ⟨rfl, hL, by rw [logB, h, h2, List.take_append_drop]⟩
end Go.Proofs.Ytpdjehnlejjfmaa.D
/- The reference's telling whether a log is in order. -/
namespace Go.Proofs.Ytpdjehnlejjfmaa.D
open Go.RowKit
set_option maxRecDepth 100000
set_option maxHeartbeats 4000000
set_option linter.unusedVariables false
set_option linter.unusedSimpArgs false

theorem Good1.take {l : List OpV} {i : Nat} (h : Good1 l i) (hi : i ≤ l.length) : Good1 (l.take i) (l.take i).length := fun j hj hlt => by
 simp only [List.length_take] at hj
 obtain ⟨h1, h2, h3⟩ := h j (by omega) (by omega)
 simp only [List.getElem_take, List.take_take, show min j i = j by omega]
 exact ⟨h1, h2, h3⟩
theorem own_none {l : List OpV} {i : Nat} (h : Good1 l i) (hi : i ≤ l.length) (h0 : 0 < i) {a : Int} (ha : (l[i - 1]'(by omega)).actor < a) : own (l.take i) a = [] := by
 rw [own, List.filter_eq_nil_iff]
 intro o ho
 obtain ⟨j, hj, rfl⟩ := List.mem_iff_getElem.1 ho
 have hs := (h.take hi).sorted
 rw [List.pairwise_iff_getElem] at hs
 have hj' : j < i := by simp at hj; omega
 rcases Nat.lt_or_ge j (i - 1) with g | g
 ·have := hs j (i - 1) hj (by simp; omega) g
  simp only [List.getElem_take] at this ⊢
  simp; omega
 ·obtain rfl : j = i - 1 := by omega
  simp only [List.getElem_take]
  simp; omega
theorem seqStep {l : List OpV} {i : Nat} (hi : i < l.length) (h : Good1 l i) : ((0 < i → (l[i - 1]'(by omega)).actor ≤ l[i].actor) ∧ l[i].seq = (own (l.take i) l[i].actor).length + 1) ↔
  (i = 0 ∧ l[i].seq = 1) ∨ (0 < i ∧ l[i].actor = (l[i - 1]'(by omega)).actor ∧ l[i].seq = (l[i - 1]'(by omega)).seq + 1) ∨ (0 < i ∧ (l[i - 1]'(by omega)).actor < l[i].actor ∧ l[i].seq = 1) := by
 rcases Nat.eq_zero_or_pos i with rfl | h0
 ·simp [own]
 ·have hp : i - 1 < l.length := by omega
  have h1 := (h (i - 1) hp (by omega)).2.2
  have e : own (l.take i) (l[i - 1]).actor = own (l.take (i - 1)) (l[i - 1]).actor ++ [l[i - 1]] := by
   have := own_take hp (l[i - 1]).actor
   rw [if_pos rfl, show i - 1 + 1 = i by omega] at this
   exact this
  rcases Int.lt_trichotomy (l[i - 1]).actor l[i].actor with g | g | g
  ·rw [own_none h (by omega) h0 g]
   constructor
   ·rintro ⟨_, h2⟩; exact .inr (.inr ⟨h0, g, by simpa using h2⟩)
   ·rintro (⟨h2, _⟩ | ⟨_, h2, _⟩ | ⟨_, _, h2⟩)
    ·omega
    ·omega
    ·exact ⟨fun _ => by omega, by simpa using h2⟩
  ·rw [← g, e]
   simp only [List.length_append, List.length_singleton]
   constructor
   ·rintro ⟨_, h2⟩; exact .inr (.inl ⟨h0, by simp, by push_cast at h2; omega⟩)
   ·rintro (⟨h2, _⟩ | ⟨_, _, h2⟩ | ⟨_, h2, _⟩)
    ·omega
    ·exact ⟨fun _ => by omega, by push_cast; omega⟩
    ·omega
  ·constructor
   ·rintro ⟨h2, _⟩; have := h2 h0; omega
   ·rintro (⟨h2, _⟩ | ⟨_, h2, _⟩ | ⟨_, h2, _⟩) <;> omega
theorem s_l02New : CallD Try.prog id_spec_l02New [] [] (.agg [.os (.v 0) 1 0 16]) [.own 1 ((List.replicate 16 (0 : Int)).map inD)] := by
 refine F_spec_l02New ?_
 try (conv => whnf)
 repeat (first
  | (refine Need.mk ?_ ?_; (focus (omega)); conv => whnf)
  | (refine Pick.mk ?_ ?_ ?_; rotate_left; (focus (first | (simp only [List.length_map, List.length_append, List.length_cons, List.length_nil, List.length_replicate, Nat.zero_add]; rfl) | exact natlit _)); conv => whnf))
 refine Out.mk false [0, 1, 2, 3, 4] [] ?_
 try (conv => whnf)
 repeat (refine Need.mk ?_ ?_; (focus ((first | exact flat_by _ | exact flat_in _ | exact flat_st _ | exact flat_ts _ | exact flat_bo _ | exact flat_cl rfl))); conv => whnf)
 exact ⟨rfl, rfl⟩
theorem s_l08Counts (l : List OpV) (hl : ∀ o ∈ l, actOk o.actor) (hle : l.length ≤ 2 ^ 40) : CallD Try.prog id_spec_l08Counts [vL l] [] (.agg [.os (.v 0) 1 0 16]) [.own 1 ((cnts l).map inD)] := by
 refine F_spec_l08Counts ?_
 try (conv => whnf)
 refine Hand.mk [] ?_
 try (conv => whnf)
 refine CallW.d (s_l02New) ?_
 try (conv => whnf)
 refine LoopE.mk (fun i : Nat => mk [(0, vL l), (2, .one (.ptr 4096 0)), (3, .one (.ptr 8208 0)), (4, vI .i64 i)] [(4096, .box [.nil]), (8208, .box [.os (.v 8192) 1 0 16]), (8192, .own 1 ((cnts (l.take i)).map inD))])
  (fun i => i ≤ l.length) (fun i => l.length - i) 0 (by omega) (LeX.of ?_) ?_
 ·try (conv => whnf)
  repeat (refine Need.mk ?_ ?_; (focus (first | omega | (simp; done) | rfl)); conv => whnf)
  trivial
 ·intro i hi
  try (conv => whnf)
  repeat' (first
   | (refine Pick.mk ?_ ?_ ?_; rotate_left; (focus (first | exact List.length_map _ | (refine pick_nat _ _ _ ?_; omega))); conv => whnf)
   | (refine SeqJ.thru ?_; conv => whnf)
   | (refine br_dec (fun _ => ?_) (fun _ => ?_) <;> first | (exfalso; omega) | contradiction | conv => whnf)
   | (refine br_not ?_; conv => whnf)
   | (refine br_bne (fun _ => ?_) (fun _ => ?_) <;> first | (exfalso; omega) | contradiction | conv => whnf)
   | (refine br_beq (fun _ => ?_) (fun _ => ?_) <;> first | (exfalso; omega) | contradiction | conv => whnf))
  ·have hlt : i < l.length := by omega
   obtain ⟨a0, a1⟩ := hl _ (List.getElem_mem hlt)
   have hcn := cnts_get (l.take i) (a := l[i].actor.toNat) (by omega)
   rw [show ((l[i].actor.toNat : Nat) : Int) = l[i].actor by omega] at hcn
   have hle2 := own_le (l.take i) l[i].actor
   simp only [List.length_take] at hle2
   try (conv => whnf)
   repeat (first
    | (refine Need.mk ?_ ?_; (focus (first | omega | (simp only [List.length_map, List.length_append, List.length_cons, List.length_nil, List.length_replicate]; omega))); conv => whnf)
    | (refine Pick.mk ?_ ?_ ?_; rotate_left; (focus (first | with_reducible exact set_inI _ _ _ _ | (with_reducible refine get_mapI _ _ _ ?_ ?_ <;> first | omega | (simp; omega)) | (refine wid ?_ ?_ <;> omega))); conv => whnf))
   refine Pick.mk (i + 1) (by constructor <;> first | omega | (simp only []; omega)) (LeX.of ?_)
   try (conv => whnf)
   repeat (refine Need.mk ?_ ?_; (focus (first | omega | (simp; done))); conv => whnf)
   refine Need.mk (by rw [hcn, cnts_set hlt ⟨a0, a1⟩]) ?_
   try (conv => whnf)
   trivial
  ·refine Out.mk false [0, 1, 2, 3, 4] [] ?_
   try (conv => whnf)
   repeat (refine Need.mk ?_ ?_; (focus ((first | exact flat_by _ | exact flat_in _ | exact flat_st _ | exact flat_ts _ | exact flat_bo _ | exact flat_cl rfl))); conv => whnf)
   exact ⟨rfl, by rw [List.take_of_length_le (by omega)]⟩
theorem s_l08Find (l p m q : List OpV) (a n : Int) (hl : l = p ++ m ++ q) (hp : ∀ o ∈ p, o.actor ≠ a) (hm : ∀ o ∈ m, o.actor = a) (h1 : 1 ≤ n) (h2 : n ≤ m.length) (hle : l.length ≤ 2 ^ 40) :
  CallD Try.prog id_spec_l08Find [vL l, vI .i64 a, vI .i64 n] [] (vI .i64 (p.length + n - 1)) [] := by
 refine F_spec_l08Find ?_
 have hL : l.length = p.length + m.length + q.length := by rw [hl]; simp only [List.length_append]
 try (conv => whnf)
 refine LoopE.mk (fun i : Nat => mk [(0, vL l), (1, vI .i64 a), (2, vI .i64 n), (7, vI .i64 i)] []) (fun i => i ≤ p.length) (fun i => p.length - i) 0 (by omega) (LeX.of ?_) ?_
 ·try (conv => whnf)
  repeat (refine Need.mk ?_ ?_; (focus (first | omega | (simp; done))); conv => whnf)
  trivial
 ·intro i hi
  have hat : i < l.length := by omega
  rcases Nat.lt_or_ge i p.length with g | g
  ·have hne : l[i].actor ≠ a := by
    have e : l[i] = p[i] := by simp only [hl]; rw [List.getElem_append_left (by simp; omega), List.getElem_append_left g]
    rw [e]; exact hp _ (List.getElem_mem g)
   try (conv => whnf)
   repeat' (first
    | (refine Pick.mk ?_ ?_ ?_; rotate_left; (focus (first | exact List.length_map _ | (refine wid ?_ ?_ <;> omega) | (refine pick_nat _ _ _ ?_; omega))); conv => whnf)
    | (refine SeqJ.thru ?_; conv => whnf)
    | (refine br_dec (fun _ => ?_) (fun _ => ?_) <;> first | (exfalso; omega) | contradiction | conv => whnf)
    | (refine br_not ?_; conv => whnf)
    | (refine br_bne (fun _ => ?_) (fun _ => ?_) <;> first | (exfalso; omega) | contradiction | conv => whnf)
    | (refine br_beq (fun _ => ?_) (fun _ => ?_) <;> first | (exfalso; omega) | contradiction | conv => whnf))
   refine Pick.mk (i + 1) (by constructor <;> first | omega | (simp only []; omega)) (LeX.of ?_)
   try (conv => whnf)
   repeat (refine Need.mk ?_ ?_; (focus (first | omega | (simp; done))); conv => whnf)
   trivial
  ·obtain rfl : i = p.length := by omega
   have heq : l[p.length].actor = a := by
    have e : l[p.length] = m[0] := by simp only [hl]; rw [List.getElem_append_left (by simp; omega), List.getElem_append_right (by omega)]; simp
    rw [e]; exact hm _ (List.getElem_mem _)
   have heq2 : (l[((p.length : Int) + n - 1).toNat]'(by omega)).actor = a := by
    have e : l[((p.length : Int) + n - 1).toNat]'(by omega) = m[(n - 1).toNat]'(by omega) := by
     simp only [hl]
     rw [List.getElem_append_left (by simp; omega), List.getElem_append_right (by omega)]
     congr 1; omega
    rw [e]; exact hm _ (List.getElem_mem _)
   try (conv => whnf)
   repeat' (first
    | (refine Pick.mk ?_ ?_ ?_; rotate_left; (focus (first | exact List.length_map _ | (refine wid ?_ ?_ <;> omega) | (refine pick_nat _ _ _ ?_; omega) | (refine pick_int _ _ _ ?_ ?_ <;> omega))); conv => whnf)
    | (refine SeqJ.thru ?_; conv => whnf)
    | (refine br_dec (fun _ => ?_) (fun _ => ?_) <;> first | (exfalso; omega) | contradiction | conv => whnf)
    | (refine br_not ?_; conv => whnf)
    | (refine br_bne (fun _ => ?_) (fun _ => ?_) <;> first | (exfalso; omega) | contradiction | conv => whnf)
    | (refine br_beq (fun _ => ?_) (fun _ => ?_) <;> first | (exfalso; omega) | contradiction | conv => whnf))
   all_goals
    refine Out.mk true [] [] ?_
    try (conv => whnf)
   all_goals exact ⟨rfl, rfl⟩
theorem s_l08Thing (k : Int) : CallD Try.prog id_spec_l08Thing [vI .i64 k] [] (vI .i64 (thS k)) [] := by
 refine F_spec_l08Thing ?_
 try (conv => whnf)
 repeat' (first
  | (refine SeqJ.thru ?_; conv => whnf)
  | (refine br_dec (fun _ => ?_) (fun _ => ?_) <;> first | (exfalso; omega) | contradiction | conv => whnf)
  | (refine br_not ?_; conv => whnf)
  | (refine br_bne (fun _ => ?_) (fun _ => ?_) <;> first | (exfalso; omega) | contradiction | conv => whnf)
  | (refine br_beq (fun _ => ?_) (fun _ => ?_) <;> first | (exfalso; omega) | contradiction | conv => whnf))
 all_goals
  refine Out.mk true [] [] ?_
  try (conv => whnf)
 all_goals exact ⟨by simp only [thS]; split <;> (try split) <;> first | rfl | omega, rfl⟩
theorem own_find {l : List OpV} (h : l.Pairwise (fun x y => x.actor ≤ y.actor)) (a n : Int) (h1 : 1 ≤ n) (h2 : n ≤ (own l a).length) :
  ∃ p q, l = p ++ own l a ++ q ∧ (∀ o ∈ p, o.actor ≠ a) ∧ (∀ o ∈ own l a, o.actor = a) ∧ ∀ hlt : ((p.length : Int) + n - 1).toNat < l.length, (own l a)[(n - 1).toNat]? = some l[((p.length : Int) + n - 1).toNat] := by
 obtain ⟨p, q, e, hp, hq⟩ := split_own l a h
 refine ⟨p, q, e, fun o ho => by have := hp o ho; omega, fun o ho => by simpa using (List.mem_filter.1 ho).2, fun hlt => ?_⟩
 rw [← List.getElem?_eq_getElem hlt]
 conv => rhs; rw [e]
 rw [List.append_assoc, List.getElem?_append_right (by omega), List.getElem?_append_left (by omega)]
 congr 1; omega
theorem s_l08Causes (l : List OpV) (o : OpV) (hg : Good1 l l.length) (ho : OpOk o) (hle : l.length ≤ 2 ^ 40) : CallD Try.prog id_spec_l08Causes [vL l, vV (cnts l), vO o] [] (vB (decide (Cause l o))) [] := by
  refine F_spec_l08Causes ?_
  have hvl := ho.vec.1
  try (conv => whnf)
  refine LoopE.mk (fun a : Nat => mk [(0, vL l), (7, vI .i64 a), (4, .one (.ptr 4096 0)), (5, .one (.ptr 4112 0))] [(4096, .box [cN (cnts l)]), (4112, .box (opC o))]) (fun a => a ≤ 16 ∧ ∀ b : Nat, b < a → CauseAt l o b) (fun a => 16 - a) 0 ⟨by omega, fun b h => by omega⟩ (LeX.of ?_) ?_
  · try (conv => whnf)
    repeat (refine Need.mk ?_ ?_; (focus (first | omega | (simp; done))); conv => whnf)
    trivial
  · rintro a ⟨ha, hca⟩
    by_cases ha16 : a < 16
    · have hcn := cnts_get l ha16
      have hcl := cnts_length l
      have e3 : o.deps.getD a 0 = o.deps[a] := by simp [List.getD, show a < o.deps.length by omega]
      obtain ⟨c0, c1⟩ := ho.vec.2 _ (List.getElem_mem (show a < o.deps.length by omega))
      have step : CauseAt l o a → ∀ b : Nat, b < a + 1 → CauseAt l o b := fun h b hb => by
        rcases Nat.lt_or_ge b a with g | g
        · exact hca b g
        · obtain rfl : b = a := by omega
          exact h
      try (conv => whnf)
      repeat' (first
        | (refine Need.mk ?_ ?_; (focus (((conv => whnf); (repeat (first | (refine Need.mk (by first | rfl | omega | (simp; done)) ?_; conv => whnf) | (refine Pick.mk ?_ ?_ ?_; rotate_left; (focus (first | with_reducible exact xor_u8 _ _ | (with_reducible refine xor_i64 ?_ ?_; all_goals omega) | (with_reducible refine xor_u32 ?_ ?_; all_goals omega) | assumption | with_reducible exact set_byN _ _ _ _ | with_reducible exact set_byI _ _ _ _ | with_reducible exact set_inN _ _ _ _ | with_reducible exact set_inI _ _ _ _ | with_reducible exact set_stN _ _ _ _ | with_reducible exact set_tsN _ _ _ _ | with_reducible exact set_tsI _ _ _ _ | with_reducible exact set_boN _ _ _ _ | with_reducible exact set_boI _ _ _ _ | (with_reducible refine get_mapN _ _ _ ?_; first | omega | (simp; omega)) | (with_reducible refine get_mapI _ _ _ ?_ ?_ <;> first | omega | (simp; omega)) | exact bs_beq _ _ | exact bs_less _ _ | exact bs_leq _ _ | with_reducible exact bs_app _ _ | (refine bs_get _ _ ?_; omega) | (refine bs_int _ _ ?_ ?_ <;> omega) | with_reducible exact sl_map0 _ _ _ | with_reducible exact sl_mapN _ _ _ | with_reducible exact sl_map _ _ _ _ | exact bs_extract0 _ _ | exact bs_extractN _ _ | exact bs_extract _ _ _ | (refine bnd_id ?_; omega) | (refine bnd_sub ?_ ?_ <;> omega) | (refine bnd_add ?_; omega) | (refine bnd_subN ?_ ?_ <;> omega) | (refine bnd_int ?_ ?_ <;> omega) | ((show @Eq Nat (_ + Int.toNat _ * _) _); simp only [Int.toNat_natCast, Nat.zero_add, Nat.mul_one]; rfl) | ((show @Eq (List _) (List.set [_] _ _) _); simp only [List.set_cons_zero]; rfl) | exact List.length_map _ | exact size_bs _ | (simp only [List.length_map, List.length_append, List.length_cons, List.length_nil, List.length_replicate, Nat.zero_add]; rfl) | with_reducible exact List.nil_append _ | with_reducible exact map_app _ _ _ | exact map_snoc byD _ _ | exact map_snoc inD _ _ | exact map_snoc stD _ _ | exact map_snoc tsD _ _ | (simp only [chunks]; rfl) | (refine wid ?_ ?_ <;> omega) | exact wby _ | with_reducible exact wby32 _ | with_reducible exact wu32 _ | exact wby64 _ | exact shr8 _ | exact shr16 _ | exact shr24 _ | exact shr32 _ | (refine tmodn ?_; omega) | (refine wdiv ?_ ?_ ?_ <;> omega) | exact wbyte _ | exact natlit _ | exact rep_by _ | exact rep_in _ | exact rep_bo _ | exact rep_st _ | (refine pick_nat _ _ _ ?_; omega) | (refine pick_int _ _ _ ?_ ?_ <;> omega) | (refine SlOf.full ?_; first | (simp; done) | (simp; omega)) | (with_reducible refine SlOf.pre _ _ ?_; first | omega | (simp; omega)) | (refine SlF.self _ _ ?_ ?_; (first | rfl | omega | (simp; done) | (simp; omega)); (exact fun _ => rfl)) | (refine SlF.pre _ _ ?_ ?_; (first | omega | (simp; omega)); (exact fun _ => rfl)) | (refine SlF.same ?_ ?_; (first | rfl | omega | (simp; done) | (simp; omega)); (first | exact fz_self _ _ (fun _ => rfl) | exact fz_pl rfl | (refine Fz.append ?_ ?_ <;> first | exact fz_self _ _ (fun _ => rfl) | exact fz_pl rfl) | (refine Fz.append (Fz.append ?_ ?_) ?_ <;> first | exact fz_self _ _ (fun _ => rfl) | exact fz_pl rfl))) | (simp only [Int.toNat_natCast, Nat.zero_add, Nat.mul_one]; rfl) | ((show @Eq (Option CV) _ _); rfl) | ((fail_if_success (show @Eq (Option _) _ _)); rfl) | ((show @Eq (Option _) _ _); simp only [List.getElem?_cons_zero, List.getElem?_cons_succ]; done) | ((show @Eq (Option _) _ _); simp only [List.getElem?_cons_zero, List.getElem?_cons_succ]; rfl) | with_reducible rfl)); conv => whnf))); exact Done.mk trivial))); conv => whnf)
        | (refine Pick.mk ?_ ?_ ?_; rotate_left; (focus (first | (refine wid ?_ ?_ <;> omega) | (refine pick_nat _ _ _ ?_; omega))); conv => whnf)
        | (refine SeqJ.thru ?_; conv => whnf)
        | (refine br_dec (fun _ => ?_) (fun _ => ?_) <;> first | (exfalso; omega) | contradiction | conv => whnf)
        | (refine br_not ?_; conv => whnf)
        | (refine br_bne (fun _ => ?_) (fun _ => ?_) <;> first | (exfalso; omega) | contradiction | conv => whnf)
        | (refine br_beq (fun _ => ?_) (fun _ => ?_) <;> first | (exfalso; omega) | contradiction | conv => whnf))
      · refine Out.mk true [] [] ?_
        try (conv => whnf)
        exact ⟨dec_f fun h => by have := (h a ha16).1; rw [e3] at this; omega, rfl⟩
      · obtain ⟨p, q, e, hp, hm, hat⟩ := own_find hg.sorted a o.deps[a] (by omega) (by omega)
        have hL : l.length = p.length + (own l a).length + q.length := by conv => lhs; rw [e]
                                                                          simp only [List.length_append]
        have e4 := hat (by omega)
        refine Hand.mk [] ?_
        try (conv => whnf)
        refine CallW.d (s_l08Find l p (own l a) q a o.deps[a] e hp hm (by omega) (by omega) hle) ?_
        try (conv => whnf)
        repeat (first
          | (refine Need.mk ?_ ?_; (focus (((conv => whnf); (repeat (first | (refine Need.mk (by first | rfl | omega | (simp; done)) ?_; conv => whnf) | (refine Pick.mk ?_ ?_ ?_; rotate_left; (focus (first | with_reducible exact xor_u8 _ _ | (with_reducible refine xor_i64 ?_ ?_; all_goals omega) | (with_reducible refine xor_u32 ?_ ?_; all_goals omega) | assumption | with_reducible exact set_byN _ _ _ _ | with_reducible exact set_byI _ _ _ _ | with_reducible exact set_inN _ _ _ _ | with_reducible exact set_inI _ _ _ _ | with_reducible exact set_stN _ _ _ _ | with_reducible exact set_tsN _ _ _ _ | with_reducible exact set_tsI _ _ _ _ | with_reducible exact set_boN _ _ _ _ | with_reducible exact set_boI _ _ _ _ | (with_reducible refine get_mapN _ _ _ ?_; first | omega | (simp; omega)) | (with_reducible refine get_mapI _ _ _ ?_ ?_ <;> first | omega | (simp; omega)) | exact bs_beq _ _ | exact bs_less _ _ | exact bs_leq _ _ | with_reducible exact bs_app _ _ | (refine bs_get _ _ ?_; omega) | (refine bs_int _ _ ?_ ?_ <;> omega) | with_reducible exact sl_map0 _ _ _ | with_reducible exact sl_mapN _ _ _ | with_reducible exact sl_map _ _ _ _ | exact bs_extract0 _ _ | exact bs_extractN _ _ | exact bs_extract _ _ _ | (refine bnd_id ?_; omega) | (refine bnd_sub ?_ ?_ <;> omega) | (refine bnd_add ?_; omega) | (refine bnd_subN ?_ ?_ <;> omega) | (refine bnd_int ?_ ?_ <;> omega) | ((show @Eq Nat (_ + Int.toNat _ * _) _); simp only [Int.toNat_natCast, Nat.zero_add, Nat.mul_one]; rfl) | ((show @Eq (List _) (List.set [_] _ _) _); simp only [List.set_cons_zero]; rfl) | exact List.length_map _ | exact size_bs _ | (simp only [List.length_map, List.length_append, List.length_cons, List.length_nil, List.length_replicate, Nat.zero_add]; rfl) | with_reducible exact List.nil_append _ | with_reducible exact map_app _ _ _ | exact map_snoc byD _ _ | exact map_snoc inD _ _ | exact map_snoc stD _ _ | exact map_snoc tsD _ _ | (simp only [chunks]; rfl) | (refine wid ?_ ?_ <;> omega) | exact wby _ | with_reducible exact wby32 _ | with_reducible exact wu32 _ | exact wby64 _ | exact shr8 _ | exact shr16 _ | exact shr24 _ | exact shr32 _ | (refine tmodn ?_; omega) | (refine wdiv ?_ ?_ ?_ <;> omega) | exact wbyte _ | exact natlit _ | exact rep_by _ | exact rep_in _ | exact rep_bo _ | exact rep_st _ | (refine pick_nat _ _ _ ?_; omega) | (refine pick_int _ _ _ ?_ ?_ <;> omega) | (refine SlOf.full ?_; first | (simp; done) | (simp; omega)) | (with_reducible refine SlOf.pre _ _ ?_; first | omega | (simp; omega)) | (refine SlF.self _ _ ?_ ?_; (first | rfl | omega | (simp; done) | (simp; omega)); (exact fun _ => rfl)) | (refine SlF.pre _ _ ?_ ?_; (first | omega | (simp; omega)); (exact fun _ => rfl)) | (refine SlF.same ?_ ?_; (first | rfl | omega | (simp; done) | (simp; omega)); (first | exact fz_self _ _ (fun _ => rfl) | exact fz_pl rfl | (refine Fz.append ?_ ?_ <;> first | exact fz_self _ _ (fun _ => rfl) | exact fz_pl rfl) | (refine Fz.append (Fz.append ?_ ?_) ?_ <;> first | exact fz_self _ _ (fun _ => rfl) | exact fz_pl rfl))) | (simp only [Int.toNat_natCast, Nat.zero_add, Nat.mul_one]; rfl) | ((show @Eq (Option CV) _ _); rfl) | ((fail_if_success (show @Eq (Option _) _ _)); rfl) | ((show @Eq (Option _) _ _); simp only [List.getElem?_cons_zero, List.getElem?_cons_succ]; done) | ((show @Eq (Option _) _ _); simp only [List.getElem?_cons_zero, List.getElem?_cons_succ]; rfl) | with_reducible rfl)); conv => whnf))); exact Done.mk trivial))); conv => whnf)
          | (refine Pick.mk ?_ ?_ ?_; rotate_left; (focus ((refine pick_int _ _ _ ?_ ?_ <;> omega))); conv => whnf))
        refine Hand.mk [] ?_
        try (conv => whnf)
        refine CallW.d (s_l08Stamp (l[((p.length : Int) + o.deps[a] - 1).toNat]'(by omega))) ?_
        try (conv => whnf)
        repeat (refine Need.mk ?_ ?_; (focus (((conv => whnf); (repeat (first | (refine Need.mk (by first | rfl | omega | (simp; done)) ?_; conv => whnf) | (refine Pick.mk ?_ ?_ ?_; rotate_left; (focus (first | with_reducible exact xor_u8 _ _ | (with_reducible refine xor_i64 ?_ ?_; all_goals omega) | (with_reducible refine xor_u32 ?_ ?_; all_goals omega) | assumption | with_reducible exact set_byN _ _ _ _ | with_reducible exact set_byI _ _ _ _ | with_reducible exact set_inN _ _ _ _ | with_reducible exact set_inI _ _ _ _ | with_reducible exact set_stN _ _ _ _ | with_reducible exact set_tsN _ _ _ _ | with_reducible exact set_tsI _ _ _ _ | with_reducible exact set_boN _ _ _ _ | with_reducible exact set_boI _ _ _ _ | (with_reducible refine get_mapN _ _ _ ?_; first | omega | (simp; omega)) | (with_reducible refine get_mapI _ _ _ ?_ ?_ <;> first | omega | (simp; omega)) | exact bs_beq _ _ | exact bs_less _ _ | exact bs_leq _ _ | with_reducible exact bs_app _ _ | (refine bs_get _ _ ?_; omega) | (refine bs_int _ _ ?_ ?_ <;> omega) | with_reducible exact sl_map0 _ _ _ | with_reducible exact sl_mapN _ _ _ | with_reducible exact sl_map _ _ _ _ | exact bs_extract0 _ _ | exact bs_extractN _ _ | exact bs_extract _ _ _ | (refine bnd_id ?_; omega) | (refine bnd_sub ?_ ?_ <;> omega) | (refine bnd_add ?_; omega) | (refine bnd_subN ?_ ?_ <;> omega) | (refine bnd_int ?_ ?_ <;> omega) | ((show @Eq Nat (_ + Int.toNat _ * _) _); simp only [Int.toNat_natCast, Nat.zero_add, Nat.mul_one]; rfl) | ((show @Eq (List _) (List.set [_] _ _) _); simp only [List.set_cons_zero]; rfl) | exact List.length_map _ | exact size_bs _ | (simp only [List.length_map, List.length_append, List.length_cons, List.length_nil, List.length_replicate, Nat.zero_add]; rfl) | with_reducible exact List.nil_append _ | with_reducible exact map_app _ _ _ | exact map_snoc byD _ _ | exact map_snoc inD _ _ | exact map_snoc stD _ _ | exact map_snoc tsD _ _ | (simp only [chunks]; rfl) | (refine wid ?_ ?_ <;> omega) | exact wby _ | with_reducible exact wby32 _ | with_reducible exact wu32 _ | exact wby64 _ | exact shr8 _ | exact shr16 _ | exact shr24 _ | exact shr32 _ | (refine tmodn ?_; omega) | (refine wdiv ?_ ?_ ?_ <;> omega) | exact wbyte _ | exact natlit _ | exact rep_by _ | exact rep_in _ | exact rep_bo _ | exact rep_st _ | (refine pick_nat _ _ _ ?_; omega) | (refine pick_int _ _ _ ?_ ?_ <;> omega) | (refine SlOf.full ?_; first | (simp; done) | (simp; omega)) | (with_reducible refine SlOf.pre _ _ ?_; first | omega | (simp; omega)) | (refine SlF.self _ _ ?_ ?_; (first | rfl | omega | (simp; done) | (simp; omega)); (exact fun _ => rfl)) | (refine SlF.pre _ _ ?_ ?_; (first | omega | (simp; omega)); (exact fun _ => rfl)) | (refine SlF.same ?_ ?_; (first | rfl | omega | (simp; done) | (simp; omega)); (first | exact fz_self _ _ (fun _ => rfl) | exact fz_pl rfl | (refine Fz.append ?_ ?_ <;> first | exact fz_self _ _ (fun _ => rfl) | exact fz_pl rfl) | (refine Fz.append (Fz.append ?_ ?_) ?_ <;> first | exact fz_self _ _ (fun _ => rfl) | exact fz_pl rfl))) | (simp only [Int.toNat_natCast, Nat.zero_add, Nat.mul_one]; rfl) | ((show @Eq (Option CV) _ _); rfl) | ((fail_if_success (show @Eq (Option _) _ _)); rfl) | ((show @Eq (Option _) _ _); simp only [List.getElem?_cons_zero, List.getElem?_cons_succ]; done) | ((show @Eq (Option _) _ _); simp only [List.getElem?_cons_zero, List.getElem?_cons_succ]; rfl) | with_reducible rfl)); conv => whnf))); exact Done.mk trivial))); conv => whnf)
        refine Hand.mk [] ?_
        try (conv => whnf)
        refine CallW.d (s_l08Stamp o) ?_
        try (conv => whnf)
        refine Hand.mk [] ?_
        try (conv => whnf)
        refine CallW.d (s_StampLess _ _ o.time o.actor) ?_
        try (conv => whnf)
        try (conv => whnf)
        repeat' (first
          | (refine Pick.mk ?_ ?_ ?_; rotate_left; (focus ((refine wid ?_ ?_ <;> omega))); conv => whnf)
          | (refine br_dec (fun _ => ?_) (fun _ => ?_) <;> first | (exfalso; omega) | contradiction | conv => whnf)
          | (refine br_not ?_; conv => whnf)
          | (refine br_bne (fun _ => ?_) (fun _ => ?_) <;> first | (exfalso; omega) | contradiction | conv => whnf)
          | (refine br_beq (fun _ => ?_) (fun _ => ?_) <;> first | (exfalso; omega) | contradiction | conv => whnf))
        · rename_i hst
          refine Pick.mk (a + 1) ⟨⟨by omega, step ⟨by rw [e3]; omega, fun _ x hx => by rw [e3, e4] at hx; injection hx with hx; subst hx; exact hst⟩⟩, by omega⟩ (LeX.of ?_)
          try (conv => whnf)
          repeat (refine Need.mk ?_ ?_; (focus (first | omega | (simp; done))); conv => whnf)
          trivial
        · rename_i hst
          refine Out.mk true [] [] ?_
          try (conv => whnf)
          exact ⟨dec_f fun h => hst ((h a ha16).2 (by rw [e3]; omega) _ (by rw [e3]; exact e4)), rfl⟩
      · refine Pick.mk (a + 1) ⟨⟨by omega, step ⟨by rw [e3]; omega, fun h => by rw [e3] at h; omega⟩⟩, by omega⟩ (LeX.of ?_)
        try (conv => whnf)
        repeat (refine Need.mk ?_ ?_; (focus (first | omega | (simp; done))); conv => whnf)
        trivial
    · try (conv => whnf)
      repeat' (first
        | (refine SeqJ.thru ?_; conv => whnf)
        | (refine br_dec (fun _ => ?_) (fun _ => ?_) <;> first | (exfalso; omega) | contradiction | conv => whnf)
        | (refine br_not ?_; conv => whnf)
        | (refine br_bne (fun _ => ?_) (fun _ => ?_) <;> first | (exfalso; omega) | contradiction | conv => whnf)
        | (refine br_beq (fun _ => ?_) (fun _ => ?_) <;> first | (exfalso; omega) | contradiction | conv => whnf))
      refine Out.mk true [] [] ?_
      try (conv => whnf)
      exact ⟨dec_t fun b hb => hca b (by omega), rfl⟩
end Go.Proofs.Ytpdjehnlejjfmaa.D
/- The reference's telling whether a log is in order: the whole. -/
namespace Go.Proofs.Ytpdjehnlejjfmaa.D
open Go.RowKit
set_option maxRecDepth 100000
set_option maxHeartbeats 4000000
set_option linter.unusedVariables false
set_option linter.unusedSimpArgs false

theorem s_LogOK (l : List OpV) (hw : ∀ o ∈ l, o.key.length ≤ 2 ^ 40 ∧ o.text.length ≤ 2 ^ 40) : CallD Try.prog id_spec_LogOK [vL l] [] (vB (decide (LogOk l))) [] := by
 refine F_spec_LogOK ?_
 try (conv => whnf)
 repeat' (first
  | (refine Pick.mk ?_ ?_ ?_; rotate_left; (focus (exact List.length_map _)); conv => whnf)
  | (refine SeqJ.thru ?_; conv => whnf)
  | (refine br_dec (fun _ => ?_) (fun _ => ?_) <;> first | (exfalso; omega) | contradiction | conv => whnf)
  | (refine br_not ?_; conv => whnf)
  | (refine br_bne (fun _ => ?_) (fun _ => ?_) <;> first | (exfalso; omega) | contradiction | conv => whnf)
  | (refine br_beq (fun _ => ?_) (fun _ => ?_) <;> first | (exfalso; omega) | contradiction | conv => whnf))
 ·rename_i hlen
  refine Out.mk true [] [] ?_
  try (conv => whnf)
  exact ⟨dec_f fun h => by have := h.len; omega, rfl⟩
 ·rename_i hlen
  refine LoopE.mk (fun i : Nat => mk [(0, vL l), (3, vI .i64 i)] []) (fun i => i ≤ l.length ∧ Good1 l i) (fun i => l.length - i) 0 ⟨by omega, Good1.zero l⟩ (LeX.of ?_) ?_
  ·try (conv => whnf)
   repeat (refine Need.mk ?_ ?_; (focus (first | omega | (simp; done))); conv => whnf)
   trivial
  ·rintro i ⟨hi, hg⟩
   by_cases hlt : i < l.length
   ·obtain ⟨hk, ht⟩ := hw _ (List.getElem_mem hlt)
    by_cases hok : OpOk l[i]
    ·obtain ⟨a0, a1⟩ := hok.st.2
     obtain ⟨q0, q1⟩ := hok.seq
     by_cases h0 : i = 0
     ·try (conv => whnf)
      repeat' (first
       | (refine Pick.mk ?_ ?_ ?_; rotate_left; (focus (first | exact List.length_map _ | (refine pick_nat _ _ _ ?_; omega))); conv => whnf)
       | (refine SeqJ.thru ?_; conv => whnf)
       | (refine br_dec (fun _ => ?_) (fun _ => ?_) <;> first | (exfalso; omega) | contradiction | conv => whnf)
       | (refine br_not ?_; conv => whnf)
       | (refine br_bne (fun _ => ?_) (fun _ => ?_) <;> first | (exfalso; omega) | contradiction | conv => whnf)
       | (refine br_beq (fun _ => ?_) (fun _ => ?_) <;> first | (exfalso; omega) | contradiction | conv => whnf))
      refine Hand.mk [] ?_
      try (conv => whnf)
      refine CallW.d (s_l08OpOK l[i] hk ht) ?_
      try (conv => whnf)
      try (conv => whnf)
      repeat' (first
       | (refine Pick.mk ?_ ?_ ?_; rotate_left; (focus (first | (refine wid ?_ ?_ <;> omega) | (refine pick_nat _ _ _ ?_; omega))); conv => whnf)
       | (refine br_dec (fun _ => ?_) (fun _ => ?_) <;> first | (exfalso; omega) | contradiction | conv => whnf)
       | (refine br_not ?_; conv => whnf)
       | (refine br_bne (fun _ => ?_) (fun _ => ?_) <;> first | (exfalso; omega) | contradiction | conv => whnf)
       | (refine br_beq (fun _ => ?_) (fun _ => ?_) <;> first | (exfalso; omega) | contradiction | conv => whnf))
      all_goals
       first
        |skip
         have hst := (seqStep hlt hg).2 (by omega)
         refine Pick.mk (i + 1) ⟨⟨by omega, Good1.step hlt hg hok hst.1 hst.2⟩, by omega⟩ (LeX.of ?_)
         try (conv => whnf)
         repeat (refine Need.mk ?_ ?_; (focus (first | omega | (simp; done))); conv => whnf)
         trivial
        |skip
         refine Out.mk true [] [] ?_
         try (conv => whnf)
         exact ⟨dec_f fun h => by have := (seqStep hlt hg).1 ⟨(h.good.at hlt).2.1, (h.good.at hlt).2.2⟩; omega, rfl⟩
     ·have hp := (hg (i - 1) (by omega) (by omega)).1
      obtain ⟨b0, b1⟩ := hp.st.2
      obtain ⟨r0, r1⟩ := hp.seq
      have ep : ((i : Int) - 1).toNat = i - 1 := by omega
      have ha : (l[((i : Int) - 1).toNat]'(by omega)).actor = (l[i - 1]'(by omega)).actor := by simp only [ep]
      have hs : (l[((i : Int) - 1).toNat]'(by omega)).seq = (l[i - 1]'(by omega)).seq := by simp only [ep]
      try (conv => whnf)
      repeat' (first
       | (refine Pick.mk ?_ ?_ ?_; rotate_left; (focus (first | exact List.length_map _ | (refine pick_nat _ _ _ ?_; omega))); conv => whnf)
       | (refine SeqJ.thru ?_; conv => whnf)
       | (refine br_dec (fun _ => ?_) (fun _ => ?_) <;> first | (exfalso; omega) | contradiction | conv => whnf)
       | (refine br_not ?_; conv => whnf)
       | (refine br_bne (fun _ => ?_) (fun _ => ?_) <;> first | (exfalso; omega) | contradiction | conv => whnf)
       | (refine br_beq (fun _ => ?_) (fun _ => ?_) <;> first | (exfalso; omega) | contradiction | conv => whnf))
      refine Hand.mk [] ?_
      try (conv => whnf)
      refine CallW.d (s_l08OpOK l[i] hk ht) ?_
      try (conv => whnf)
      try (conv => whnf)
      repeat' (first
       | (refine Pick.mk ?_ ?_ ?_; rotate_left; (focus (first | (refine wid ?_ ?_ <;> omega) | (refine pick_nat _ _ _ ?_; omega) | (refine pick_int _ _ _ ?_ ?_ <;> omega))); conv => whnf)
       | (refine br_dec (fun _ => ?_) (fun _ => ?_) <;> first | (exfalso; omega) | contradiction | conv => whnf)
       | (refine br_not ?_; conv => whnf)
       | (refine br_bne (fun _ => ?_) (fun _ => ?_) <;> first | (exfalso; omega) | contradiction | conv => whnf)
       | (refine br_beq (fun _ => ?_) (fun _ => ?_) <;> first | (exfalso; omega) | contradiction | conv => whnf))
      all_goals
       first
        |skip
         have hst := (seqStep hlt hg).2 (by omega)
         refine Pick.mk (i + 1) ⟨⟨by omega, Good1.step hlt hg hok hst.1 hst.2⟩, by omega⟩ (LeX.of ?_)
         try (conv => whnf)
         repeat (refine Need.mk ?_ ?_; (focus (first | omega | (simp; done))); conv => whnf)
         trivial
        |skip
         refine Out.mk true [] [] ?_
         try (conv => whnf)
         exact ⟨dec_f fun h => by have := (seqStep hlt hg).1 ⟨(h.good.at hlt).2.1, (h.good.at hlt).2.2⟩; omega, rfl⟩
    ·try (conv => whnf)
     repeat' (first
      | (refine Pick.mk ?_ ?_ ?_; rotate_left; (focus (first | exact List.length_map _ | (refine pick_nat _ _ _ ?_; omega))); conv => whnf)
      | (refine SeqJ.thru ?_; conv => whnf)
      | (refine br_dec (fun _ => ?_) (fun _ => ?_) <;> first | (exfalso; omega) | contradiction | conv => whnf)
      | (refine br_not ?_; conv => whnf)
      | (refine br_bne (fun _ => ?_) (fun _ => ?_) <;> first | (exfalso; omega) | contradiction | conv => whnf)
      | (refine br_beq (fun _ => ?_) (fun _ => ?_) <;> first | (exfalso; omega) | contradiction | conv => whnf))
     refine Hand.mk [] ?_
     try (conv => whnf)
     refine CallW.d (s_l08OpOK l[i] hk ht) ?_
     try (conv => whnf)
     try (conv => whnf)
     repeat' (first
      | (refine br_dec (fun _ => ?_) (fun _ => ?_) <;> first | (exfalso; omega) | contradiction | conv => whnf)
      | (refine br_not ?_; conv => whnf)
      | (refine br_bne (fun _ => ?_) (fun _ => ?_) <;> first | (exfalso; omega) | contradiction | conv => whnf)
      | (refine br_beq (fun _ => ?_) (fun _ => ?_) <;> first | (exfalso; omega) | contradiction | conv => whnf))
     refine Out.mk true [] [] ?_
     try (conv => whnf)
     exact ⟨dec_f fun h => hok (h.good.at hlt).1, rfl⟩
   ·have hgl : Good1 l l.length := by
     have e9 : i = l.length := by omega
     rwa [e9] at hg
    try (conv => whnf)
    repeat' (first
     | (refine Pick.mk ?_ ?_ ?_; rotate_left; (focus (exact List.length_map _)); conv => whnf)
     | (refine SeqJ.thru ?_; conv => whnf)
     | (refine br_dec (fun _ => ?_) (fun _ => ?_) <;> first | (exfalso; omega) | contradiction | conv => whnf)
     | (refine br_not ?_; conv => whnf)
     | (refine br_bne (fun _ => ?_) (fun _ => ?_) <;> first | (exfalso; omega) | contradiction | conv => whnf)
     | (refine br_beq (fun _ => ?_) (fun _ => ?_) <;> first | (exfalso; omega) | contradiction | conv => whnf))
    refine Hand.mk [] ?_
    try (conv => whnf)
    refine CallW.d (s_l08Counts l (fun o ho => (hgl.all o ho).st.2) (by omega)) ?_
    try (conv => whnf)
    repeat (first
     | (refine Need.mk ?_ ?_; (focus (omega)); conv => whnf)
     | (refine Pick.mk ?_ ?_ ?_; rotate_left; (focus (first | (simp only [List.length_map, List.length_append, List.length_cons, List.length_nil, List.length_replicate, Nat.zero_add]; rfl) | exact natlit _)); conv => whnf))
    refine LoopE.mk (fun i : Nat => mk [(0, vL l), (7, vI .i64 i), (5, .one (.ptr 49184 0)), (6, .one (.os (.v 53248) 1 0 101))] [(49184, .box [.os (.v 49168) 1 0 16]), (49168, .own 1 ((cnts l).map inD)), (53248, .own 1 ((kdOf thS (l.take i)).map inD))])
     (fun i => i ≤ l.length ∧ SameTh thS (l.take i) ∧ ∀ o ∈ l.take i, Cause l o) (fun i => l.length - i) 0 ⟨by omega, fun a ha => by simp at ha, by simp⟩ (LeX.of ?_) ?_
    ·try (conv => whnf)
     repeat (refine Need.mk ?_ ?_; (focus (first | omega | (simp; done) | rfl)); conv => whnf)
     trivial
    ·rintro i ⟨hi, hs, hc⟩
     by_cases hlt : i < l.length
     ·have hok := (hgl.at hlt).1
      have hob := hok.obj
      have hcl := cnts_length l
      have hkl := kdOf_length thS (l.take i)
      have e5 : (kdOf thS (l.take i)).getD l[i].obj.toNat 0 = (kdOf thS (l.take i))[l[i].obj.toNat] := by simp [List.getD, show l[i].obj.toNat < 101 by omega]
      have hki := kd_iff (fun k => thS_ne) (fun o ho => hgl.all o (List.mem_of_mem_take ho)) hs hok
      rw [e5] at hki
      by_cases hca : Cause l l[i]
      ·try (conv => whnf)
       repeat' (first
        | (refine Pick.mk ?_ ?_ ?_; rotate_left; (focus (first | exact List.length_map _ | (refine pick_nat _ _ _ ?_; omega))); conv => whnf)
        | (refine SeqJ.thru ?_; conv => whnf)
        | (refine br_dec (fun _ => ?_) (fun _ => ?_) <;> first | (exfalso; omega) | contradiction | conv => whnf)
        | (refine br_not ?_; conv => whnf)
        | (refine br_bne (fun _ => ?_) (fun _ => ?_) <;> first | (exfalso; omega) | contradiction | conv => whnf)
        | (refine br_beq (fun _ => ?_) (fun _ => ?_) <;> first | (exfalso; omega) | contradiction | conv => whnf))
       refine Hand.mk [] ?_
       try (conv => whnf)
       repeat (refine Pick.mk ?_ ?_ ?_; rotate_left; (focus ((refine SlF.self _ _ ?_ ?_; (first | rfl | omega | (simp; done) | (simp; omega)); (exact fun _ => rfl)))); conv => whnf)
       refine CallW.d (s_l08Causes l l[i] hgl hok (by omega)) ?_
       try (conv => whnf)
       try (conv => whnf)
       repeat' (first
        | (refine Pick.mk ?_ ?_ ?_; rotate_left; (focus ((refine pick_nat _ _ _ ?_; omega))); conv => whnf)
        | (refine br_dec (fun _ => ?_) (fun _ => ?_) <;> first | (exfalso; omega) | contradiction | conv => whnf)
        | (refine br_not ?_; conv => whnf)
        | (refine br_bne (fun _ => ?_) (fun _ => ?_) <;> first | (exfalso; omega) | contradiction | conv => whnf)
        | (refine br_beq (fun _ => ?_) (fun _ => ?_) <;> first | (exfalso; omega) | contradiction | conv => whnf))
       refine Hand.mk [] ?_
       try (conv => whnf)
       refine CallW.d (s_l08Thing l[i].kind) ?_
       try (conv => whnf)
       repeat (first
        | (refine Need.mk ?_ ?_; (focus (omega)); conv => whnf)
        | (refine Pick.mk ?_ ?_ ?_; rotate_left; (focus (first | (with_reducible refine get_mapI _ _ _ ?_ ?_ <;> first | omega | (simp; omega)) | (refine pick_nat _ _ _ ?_; omega))); conv => whnf)
        | (refine SeqJ.thru ?_; conv => whnf))
       try (conv => whnf)
       repeat' (first
        | (refine Need.mk ?_ ?_; (focus (first | omega | (simp only [List.length_map, List.length_append, List.length_cons, List.length_nil, List.length_replicate]; omega))); conv => whnf)
        | (refine Pick.mk ?_ ?_ ?_; rotate_left; (focus (first | with_reducible exact set_inI _ _ _ _ | (with_reducible refine get_mapI _ _ _ ?_ ?_ <;> first | omega | (simp; omega)) | (refine wid ?_ ?_ <;> omega) | (refine pick_nat _ _ _ ?_; omega))); conv => whnf)
        | (refine br_dec (fun _ => ?_) (fun _ => ?_) <;> first | (exfalso; omega) | contradiction | conv => whnf)
        | (refine br_not ?_; conv => whnf)
        | (refine br_bne (fun _ => ?_) (fun _ => ?_) <;> first | (exfalso; omega) | contradiction | conv => whnf)
        | (refine br_beq (fun _ => ?_) (fun _ => ?_) <;> first | (exfalso; omega) | contradiction | conv => whnf))
       ·have hsm := hki.1 (by omega)
        refine Pick.mk (i + 1) ⟨⟨by omega, by rw [List.take_succ_eq_append_getElem hlt]; exact hs.snoc hsm, all_next hlt hc hca⟩, by omega⟩ (LeX.of ?_)
        try (conv => whnf)
        repeat (refine Need.mk ?_ ?_; (focus (first | omega | (simp; done))); conv => whnf)
        refine Need.mk (by rw [List.take_succ_eq_append_getElem hlt, kdOf_snoc]) ?_
        try (conv => whnf)
        trivial
       ·have hsm := hki.1 (by omega)
        refine Pick.mk (i + 1) ⟨⟨by omega, by rw [List.take_succ_eq_append_getElem hlt]; exact hs.snoc hsm, all_next hlt hc hca⟩, by omega⟩ (LeX.of ?_)
        try (conv => whnf)
        repeat (refine Need.mk ?_ ?_; (focus (first | omega | (simp; done))); conv => whnf)
        refine Need.mk (by rw [List.take_succ_eq_append_getElem hlt, kdOf_snoc]) ?_
        try (conv => whnf)
        trivial
       ·refine Out.mk true [] [] ?_
        try (conv => whnf)
        exact ⟨dec_f fun h => by
         have := hki.2 (SameTh.of_snoc (((SameTh.iff hgl.all).1 h.same).sub (m := l.take i ++ [l[i]]) (fun o ho => by rw [← List.take_succ_eq_append_getElem hlt] at ho; exact List.mem_of_mem_take ho)))
         omega, rfl⟩
      ·try (conv => whnf)
       repeat' (first
        | (refine Pick.mk ?_ ?_ ?_; rotate_left; (focus (first | exact List.length_map _ | (refine pick_nat _ _ _ ?_; omega))); conv => whnf)
        | (refine SeqJ.thru ?_; conv => whnf)
        | (refine br_dec (fun _ => ?_) (fun _ => ?_) <;> first | (exfalso; omega) | contradiction | conv => whnf)
        | (refine br_not ?_; conv => whnf)
        | (refine br_bne (fun _ => ?_) (fun _ => ?_) <;> first | (exfalso; omega) | contradiction | conv => whnf)
        | (refine br_beq (fun _ => ?_) (fun _ => ?_) <;> first | (exfalso; omega) | contradiction | conv => whnf))
       refine Hand.mk [] ?_
       try (conv => whnf)
       repeat (refine Pick.mk ?_ ?_ ?_; rotate_left; (focus ((refine SlF.self _ _ ?_ ?_; (first | rfl | omega | (simp; done) | (simp; omega)); (exact fun _ => rfl)))); conv => whnf)
       refine CallW.d (s_l08Causes l l[i] hgl hok (by omega)) ?_
       try (conv => whnf)
       try (conv => whnf)
       repeat' (first
        | (refine br_dec (fun _ => ?_) (fun _ => ?_) <;> first | (exfalso; omega) | contradiction | conv => whnf)
        | (refine br_not ?_; conv => whnf)
        | (refine br_bne (fun _ => ?_) (fun _ => ?_) <;> first | (exfalso; omega) | contradiction | conv => whnf)
        | (refine br_beq (fun _ => ?_) (fun _ => ?_) <;> first | (exfalso; omega) | contradiction | conv => whnf))
       refine Out.mk true [] [] ?_
       try (conv => whnf)
       exact ⟨dec_f fun h => hca (h.cause _ (List.getElem_mem hlt)), rfl⟩
     ·try (conv => whnf)
      repeat' (first
       | (refine Pick.mk ?_ ?_ ?_; rotate_left; (focus (exact List.length_map _)); conv => whnf)
       | (refine SeqJ.thru ?_; conv => whnf)
       | (refine br_dec (fun _ => ?_) (fun _ => ?_) <;> first | (exfalso; omega) | contradiction | conv => whnf)
       | (refine br_not ?_; conv => whnf)
       | (refine br_bne (fun _ => ?_) (fun _ => ?_) <;> first | (exfalso; omega) | contradiction | conv => whnf)
       | (refine br_beq (fun _ => ?_) (fun _ => ?_) <;> first | (exfalso; omega) | contradiction | conv => whnf))
      refine Out.mk true [] [] ?_
      try (conv => whnf)
      rw [List.take_of_length_le (by omega)] at hs hc
      exact ⟨dec_t ⟨by omega, hgl, (SameTh.iff hgl.all).2 hs, hc⟩, rfl⟩
end Go.Proofs.Ytpdjehnlejjfmaa.D
/- A log's bytes by the reference. -/
namespace Go.Proofs.Ytpdjehnlejjfmaa.D
open Go.RowKit
set_option maxRecDepth 100000
set_option maxHeartbeats 4000000
set_option linter.unusedVariables false
set_option linter.unusedSimpArgs false

theorem colL_take {l : List OpV} {i : Nat} (h : i < l.length) (c : Nat) : colL (l.take (i + 1)) c = colL (l.take i) c ++ [colV l[i] c] := by
 rw [List.take_succ_eq_append_getElem h, colL, List.map_append]; rfl
theorem keysOf_take {l : List OpV} {i : Nat} (h : i < l.length) : keysOf (l.take (i + 1)) = keysOf (l.take i) ++ [l[i].key] := by
 rw [List.take_succ_eq_append_getElem h, keysOf, List.map_append]; rfl
theorem textsOf_take {l : List OpV} {i : Nat} (h : i < l.length) : textsOf (l.take (i + 1)) = textsOf (l.take i) ++ [l[i].text] := by
 rw [List.take_succ_eq_append_getElem h, textsOf, List.map_append]; rfl
theorem colV_dep {o : OpV} (hd : o.deps.length = 16) {c : Nat} (h9 : 9 ≤ c) (hc : c < 25) : colV o c = o.deps[((c : Int) - 9).toNat]'(by omega) := by
 unfold colV
 rw [List.getD_eq_getElem?_getD, List.getElem?_append_right (by simpa [nums] using h9), show c - (nums o).length = ((c : Int) - 9).toNat by simp [nums]; omega, List.getElem?_eq_getElem (by omega)]
 rfl
theorem s_l08Column (l : List OpV) (c : Nat) (hc : c < 25) (hl : l.length ≤ 2 ^ 20) (hd : ∀ o ∈ l, OpOk o) : CallD Try.prog id_spec_l08Column [vL l, vI .i64 c] [] (.one (.os (.v 0) 1 0 l.length)) [.own 1 ((colL l c).map inD)] := by
 refine F_spec_l08Column ?_
 try (conv => whnf)
 repeat (refine Pick.mk ?_ ?_ ?_; rotate_left; (focus ((simp only [chunks]; rfl))); conv => whnf)
 refine LoopE.mk (fun i : Nat => mk [(0, vL l), (1, vI .i64 c), (5, .one (.os (.v 8192) 1 0 i)), (6, vI .i64 i)] [(8192, .own 1 ((colL (l.take i) c).map inD))]) (fun i => i ≤ l.length) (fun i => l.length - i) 0 (by omega) (LeX.of ?_) ?_
 ·try (conv => whnf)
  repeat (refine Need.mk ?_ ?_; (focus (first | omega | (simp; done) | rfl)); conv => whnf)
  trivial
 ·intro i hi
  by_cases hlt : i < l.length
  ·have hok := hd _ (List.getElem_mem hlt)
   have hvl := hok.vec.1
   have hn := hok.num
   have hcl := colL_take hlt c
   by_cases h9 : c < 9
   ·have hcs : c = 0 ∨ c = 1 ∨ c = 2 ∨ c = 3 ∨ c = 4 ∨ c = 5 ∨ c = 6 ∨ c = 7 ∨ c = 8 := by omega
    rcases hcs with rfl | rfl | rfl | rfl | rfl | rfl | rfl | rfl | rfl
    ·try (conv => whnf)
     repeat' (first
      | (refine Need.mk ?_ ?_; (focus (first | omega | rfl)); conv => whnf)
      | (refine Pick.mk ?_ ?_ ?_; rotate_left; (focus (first | exact List.length_map _ | (simp only [List.length_map, List.length_append, List.length_cons, List.length_nil, List.length_replicate, Nat.zero_add]; rfl) | exact map_snoc inD _ _ | (simp only [chunks]; rfl) | (refine wid ?_ ?_ <;> omega) | (refine pick_nat _ _ _ ?_; omega) | (refine SlOf.full ?_; first | (simp; done) | (simp; omega)))); conv => whnf)
      | (refine SeqJ.thru ?_; conv => whnf)
      | (refine br_dec (fun _ => ?_) (fun _ => ?_) <;> first | (exfalso; omega) | contradiction | conv => whnf)
      | (refine br_not ?_; conv => whnf)
      | (refine br_bne (fun _ => ?_) (fun _ => ?_) <;> first | (exfalso; omega) | contradiction | conv => whnf)
      | (refine br_beq (fun _ => ?_) (fun _ => ?_) <;> first | (exfalso; omega) | contradiction | conv => whnf))
     refine Pick.mk (i + 1) (by constructor <;> first | omega | (simp only []; omega)) (LeX.of ?_)
     try (conv => whnf)
     repeat (refine Need.mk ?_ ?_; (focus (first | omega | (simp; done))); conv => whnf)
     refine Need.mk (by rw [hcl]; rfl) ?_
     try (conv => whnf)
     trivial
    ·try (conv => whnf)
     repeat' (first
      | (refine Need.mk ?_ ?_; (focus (first | omega | rfl)); conv => whnf)
      | (refine Pick.mk ?_ ?_ ?_; rotate_left; (focus (first | exact List.length_map _ | (simp only [List.length_map, List.length_append, List.length_cons, List.length_nil, List.length_replicate, Nat.zero_add]; rfl) | exact map_snoc inD _ _ | (simp only [chunks]; rfl) | (refine wid ?_ ?_ <;> omega) | (refine pick_nat _ _ _ ?_; omega) | (refine SlOf.full ?_; first | (simp; done) | (simp; omega)))); conv => whnf)
      | (refine SeqJ.thru ?_; conv => whnf)
      | (refine br_dec (fun _ => ?_) (fun _ => ?_) <;> first | (exfalso; omega) | contradiction | conv => whnf)
      | (refine br_not ?_; conv => whnf)
      | (refine br_bne (fun _ => ?_) (fun _ => ?_) <;> first | (exfalso; omega) | contradiction | conv => whnf)
      | (refine br_beq (fun _ => ?_) (fun _ => ?_) <;> first | (exfalso; omega) | contradiction | conv => whnf))
     refine Pick.mk (i + 1) (by constructor <;> first | omega | (simp only []; omega)) (LeX.of ?_)
     try (conv => whnf)
     repeat (refine Need.mk ?_ ?_; (focus (first | omega | (simp; done))); conv => whnf)
     refine Need.mk (by rw [hcl]; rfl) ?_
     try (conv => whnf)
     trivial
    ·try (conv => whnf)
     repeat' (first
      | (refine Need.mk ?_ ?_; (focus (first | omega | rfl)); conv => whnf)
      | (refine Pick.mk ?_ ?_ ?_; rotate_left; (focus (first | exact List.length_map _ | (simp only [List.length_map, List.length_append, List.length_cons, List.length_nil, List.length_replicate, Nat.zero_add]; rfl) | exact map_snoc inD _ _ | (simp only [chunks]; rfl) | (refine wid ?_ ?_ <;> omega) | (refine pick_nat _ _ _ ?_; omega) | (refine SlOf.full ?_; first | (simp; done) | (simp; omega)))); conv => whnf)
      | (refine SeqJ.thru ?_; conv => whnf)
      | (refine br_dec (fun _ => ?_) (fun _ => ?_) <;> first | (exfalso; omega) | contradiction | conv => whnf)
      | (refine br_not ?_; conv => whnf)
      | (refine br_bne (fun _ => ?_) (fun _ => ?_) <;> first | (exfalso; omega) | contradiction | conv => whnf)
      | (refine br_beq (fun _ => ?_) (fun _ => ?_) <;> first | (exfalso; omega) | contradiction | conv => whnf))
     refine Pick.mk (i + 1) (by constructor <;> first | omega | (simp only []; omega)) (LeX.of ?_)
     try (conv => whnf)
     repeat (refine Need.mk ?_ ?_; (focus (first | omega | (simp; done))); conv => whnf)
     refine Need.mk (by rw [hcl]; rfl) ?_
     try (conv => whnf)
     trivial
    ·try (conv => whnf)
     repeat' (first
      | (refine Need.mk ?_ ?_; (focus (first | omega | rfl)); conv => whnf)
      | (refine Pick.mk ?_ ?_ ?_; rotate_left; (focus (first | exact List.length_map _ | (simp only [List.length_map, List.length_append, List.length_cons, List.length_nil, List.length_replicate, Nat.zero_add]; rfl) | exact map_snoc inD _ _ | (simp only [chunks]; rfl) | (refine wid ?_ ?_ <;> omega) | (refine pick_nat _ _ _ ?_; omega) | (refine SlOf.full ?_; first | (simp; done) | (simp; omega)))); conv => whnf)
      | (refine SeqJ.thru ?_; conv => whnf)
      | (refine br_dec (fun _ => ?_) (fun _ => ?_) <;> first | (exfalso; omega) | contradiction | conv => whnf)
      | (refine br_not ?_; conv => whnf)
      | (refine br_bne (fun _ => ?_) (fun _ => ?_) <;> first | (exfalso; omega) | contradiction | conv => whnf)
      | (refine br_beq (fun _ => ?_) (fun _ => ?_) <;> first | (exfalso; omega) | contradiction | conv => whnf))
     refine Pick.mk (i + 1) (by constructor <;> first | omega | (simp only []; omega)) (LeX.of ?_)
     try (conv => whnf)
     repeat (refine Need.mk ?_ ?_; (focus (first | omega | (simp; done))); conv => whnf)
     refine Need.mk (by rw [hcl]; rfl) ?_
     try (conv => whnf)
     trivial
    ·try (conv => whnf)
     repeat' (first
      | (refine Need.mk ?_ ?_; (focus (first | omega | rfl)); conv => whnf)
      | (refine Pick.mk ?_ ?_ ?_; rotate_left; (focus (first | exact List.length_map _ | (simp only [List.length_map, List.length_append, List.length_cons, List.length_nil, List.length_replicate, Nat.zero_add]; rfl) | exact map_snoc inD _ _ | (simp only [chunks]; rfl) | (refine wid ?_ ?_ <;> omega) | (refine pick_nat _ _ _ ?_; omega) | (refine SlOf.full ?_; first | (simp; done) | (simp; omega)))); conv => whnf)
      | (refine SeqJ.thru ?_; conv => whnf)
      | (refine br_dec (fun _ => ?_) (fun _ => ?_) <;> first | (exfalso; omega) | contradiction | conv => whnf)
      | (refine br_not ?_; conv => whnf)
      | (refine br_bne (fun _ => ?_) (fun _ => ?_) <;> first | (exfalso; omega) | contradiction | conv => whnf)
      | (refine br_beq (fun _ => ?_) (fun _ => ?_) <;> first | (exfalso; omega) | contradiction | conv => whnf))
     refine Pick.mk (i + 1) (by constructor <;> first | omega | (simp only []; omega)) (LeX.of ?_)
     try (conv => whnf)
     repeat (refine Need.mk ?_ ?_; (focus (first | omega | (simp; done))); conv => whnf)
     refine Need.mk (by rw [hcl]; rfl) ?_
     try (conv => whnf)
     trivial
    ·try (conv => whnf)
     repeat' (first
      | (refine Pick.mk ?_ ?_ ?_; rotate_left; (focus (first | exact List.length_map _ | (refine pick_nat _ _ _ ?_; omega))); conv => whnf)
      | (refine SeqJ.thru ?_; conv => whnf)
      | (refine br_dec (fun _ => ?_) (fun _ => ?_) <;> first | (exfalso; omega) | contradiction | conv => whnf)
      | (refine br_not ?_; conv => whnf)
      | (refine br_bne (fun _ => ?_) (fun _ => ?_) <;> first | (exfalso; omega) | contradiction | conv => whnf)
      | (refine br_beq (fun _ => ?_) (fun _ => ?_) <;> first | (exfalso; omega) | contradiction | conv => whnf))
     refine Hand.mk [] ?_
     try (conv => whnf)
     refine CallW.d (s_l08Sign l[i].n (by omega)) ?_
     try (conv => whnf)
     repeat (first
      | (refine Need.mk ?_ ?_; (focus (first | omega | rfl)); conv => whnf)
      | (refine Pick.mk ?_ ?_ ?_; rotate_left; (focus (first | (simp only [List.length_map, List.length_append, List.length_cons, List.length_nil, List.length_replicate, Nat.zero_add]; rfl) | exact map_snoc inD _ _ | (simp only [chunks]; rfl) | (refine wid ?_ ?_ <;> omega) | (refine SlOf.full ?_; first | (simp; done) | (simp; omega)))); conv => whnf))
     refine Pick.mk (i + 1) (by constructor <;> first | omega | (simp only []; omega)) (LeX.of ?_)
     try (conv => whnf)
     repeat (refine Need.mk ?_ ?_; (focus (first | omega | (simp; done))); conv => whnf)
     refine Need.mk (by rw [hcl]; rfl) ?_
     try (conv => whnf)
     trivial
    ·try (conv => whnf)
     repeat' (first
      | (refine Need.mk ?_ ?_; (focus (first | omega | rfl)); conv => whnf)
      | (refine Pick.mk ?_ ?_ ?_; rotate_left; (focus (first | exact List.length_map _ | (simp only [List.length_map, List.length_append, List.length_cons, List.length_nil, List.length_replicate, Nat.zero_add]; rfl) | exact map_snoc inD _ _ | (simp only [chunks]; rfl) | (refine wid ?_ ?_ <;> omega) | (refine pick_nat _ _ _ ?_; omega) | (refine SlOf.full ?_; first | (simp; done) | (simp; omega)))); conv => whnf)
      | (refine SeqJ.thru ?_; conv => whnf)
      | (refine br_dec (fun _ => ?_) (fun _ => ?_) <;> first | (exfalso; omega) | contradiction | conv => whnf)
      | (refine br_not ?_; conv => whnf)
      | (refine br_bne (fun _ => ?_) (fun _ => ?_) <;> first | (exfalso; omega) | contradiction | conv => whnf)
      | (refine br_beq (fun _ => ?_) (fun _ => ?_) <;> first | (exfalso; omega) | contradiction | conv => whnf))
     refine Pick.mk (i + 1) (by constructor <;> first | omega | (simp only []; omega)) (LeX.of ?_)
     try (conv => whnf)
     repeat (refine Need.mk ?_ ?_; (focus (first | omega | (simp; done))); conv => whnf)
     refine Need.mk (by rw [hcl]; rfl) ?_
     try (conv => whnf)
     trivial
    ·try (conv => whnf)
     repeat' (first
      | (refine Need.mk ?_ ?_; (focus (first | omega | rfl)); conv => whnf)
      | (refine Pick.mk ?_ ?_ ?_; rotate_left; (focus (first | exact List.length_map _ | (simp only [List.length_map, List.length_append, List.length_cons, List.length_nil, List.length_replicate, Nat.zero_add]; rfl) | exact map_snoc inD _ _ | (simp only [chunks]; rfl) | (refine wid ?_ ?_ <;> omega) | (refine pick_nat _ _ _ ?_; omega) | (refine SlOf.full ?_; first | (simp; done) | (simp; omega)))); conv => whnf)
      | (refine SeqJ.thru ?_; conv => whnf)
      | (refine br_dec (fun _ => ?_) (fun _ => ?_) <;> first | (exfalso; omega) | contradiction | conv => whnf)
      | (refine br_not ?_; conv => whnf)
      | (refine br_bne (fun _ => ?_) (fun _ => ?_) <;> first | (exfalso; omega) | contradiction | conv => whnf)
      | (refine br_beq (fun _ => ?_) (fun _ => ?_) <;> first | (exfalso; omega) | contradiction | conv => whnf))
     refine Pick.mk (i + 1) (by constructor <;> first | omega | (simp only []; omega)) (LeX.of ?_)
     try (conv => whnf)
     repeat (refine Need.mk ?_ ?_; (focus (first | omega | (simp; done))); conv => whnf)
     refine Need.mk (by rw [hcl]; rfl) ?_
     try (conv => whnf)
     trivial
    ·try (conv => whnf)
     repeat' (first
      | (refine Need.mk ?_ ?_; (focus (first | omega | rfl)); conv => whnf)
      | (refine Pick.mk ?_ ?_ ?_; rotate_left; (focus (first | exact List.length_map _ | (simp only [List.length_map, List.length_append, List.length_cons, List.length_nil, List.length_replicate, Nat.zero_add]; rfl) | exact map_snoc inD _ _ | (simp only [chunks]; rfl) | (refine wid ?_ ?_ <;> omega) | (refine pick_nat _ _ _ ?_; omega) | (refine SlOf.full ?_; first | (simp; done) | (simp; omega)))); conv => whnf)
      | (refine SeqJ.thru ?_; conv => whnf)
      | (refine br_dec (fun _ => ?_) (fun _ => ?_) <;> first | (exfalso; omega) | contradiction | conv => whnf)
      | (refine br_not ?_; conv => whnf)
      | (refine br_bne (fun _ => ?_) (fun _ => ?_) <;> first | (exfalso; omega) | contradiction | conv => whnf)
      | (refine br_beq (fun _ => ?_) (fun _ => ?_) <;> first | (exfalso; omega) | contradiction | conv => whnf))
     refine Pick.mk (i + 1) (by constructor <;> first | omega | (simp only []; omega)) (LeX.of ?_)
     try (conv => whnf)
     repeat (refine Need.mk ?_ ?_; (focus (first | omega | (simp; done))); conv => whnf)
     refine Need.mk (by rw [hcl]; rfl) ?_
     try (conv => whnf)
     trivial
   ·have hdep := colV_dep hvl (show 9 ≤ c by omega) hc
    try (conv => whnf)
    repeat' (first
     | (refine Need.mk ?_ ?_; (focus (first | omega | rfl)); conv => whnf)
     | (refine Pick.mk ?_ ?_ ?_; rotate_left; (focus (first | exact List.length_map _ | (simp only [List.length_map, List.length_append, List.length_cons, List.length_nil, List.length_replicate, Nat.zero_add]; rfl) | exact map_snoc inD _ _ | (simp only [chunks]; rfl) | (refine wid ?_ ?_ <;> omega) | (refine pick_nat _ _ _ ?_; omega) | (refine pick_int _ _ _ ?_ ?_ <;> omega) | (refine SlOf.full ?_; first | (simp; done) | (simp; omega)))); conv => whnf)
     | (refine SeqJ.thru ?_; conv => whnf)
     | (refine br_dec (fun _ => ?_) (fun _ => ?_) <;> first | (exfalso; omega) | contradiction | conv => whnf)
     | (refine br_not ?_; conv => whnf)
     | (refine br_bne (fun _ => ?_) (fun _ => ?_) <;> first | (exfalso; omega) | contradiction | conv => whnf)
     | (refine br_beq (fun _ => ?_) (fun _ => ?_) <;> first | (exfalso; omega) | contradiction | conv => whnf))
    refine Pick.mk (i + 1) (by constructor <;> first | omega | (simp only []; omega)) (LeX.of ?_)
    try (conv => whnf)
    repeat (refine Need.mk ?_ ?_; (focus (first | omega | (simp; done))); conv => whnf)
    refine Need.mk (by rw [hcl, hdep]) ?_
    try (conv => whnf)
    trivial
  ·try (conv => whnf)
   repeat' (first
    | (refine Pick.mk ?_ ?_ ?_; rotate_left; (focus (exact List.length_map _)); conv => whnf)
    | (refine SeqJ.thru ?_; conv => whnf)
    | (refine br_dec (fun _ => ?_) (fun _ => ?_) <;> first | (exfalso; omega) | contradiction | conv => whnf)
    | (refine br_not ?_; conv => whnf)
    | (refine br_bne (fun _ => ?_) (fun _ => ?_) <;> first | (exfalso; omega) | contradiction | conv => whnf)
    | (refine br_beq (fun _ => ?_) (fun _ => ?_) <;> first | (exfalso; omega) | contradiction | conv => whnf))
   refine Out.mk false [0, 1, 2, 3, 4] [] ?_
   try (conv => whnf)
   repeat (refine Need.mk ?_ ?_; (focus ((first | exact flat_by _ | exact flat_in _ | exact flat_st _ | exact flat_ts _ | exact flat_bo _ | exact flat_cl rfl))); conv => whnf)
   have e : l.take i = l := List.take_of_length_le (by omega)
   exact ⟨by rw [show i = l.length by omega], by rw [e]⟩
end Go.Proofs.Ytpdjehnlejjfmaa.D
/- The program's book of a log: its cells, an operation put into it. -/
namespace Go.Proofs.Ytpdjehnlejjfmaa.D
open Go.RowKit
set_option maxRecDepth 100000
set_option maxHeartbeats 4000000
set_option linter.unusedVariables false
set_option linter.unusedSimpArgs false

abbrev dI (n : Int) : DV := .sc (.int .i64 n)
def bookD (b : BookV) : List DV := (b.of.map fun l => DV.ow 12 0 l.length (l.map oD)) ++ ((b.kd.map dI) ++ [dI b.size, dI b.tT, dI b.tA])
structure BookV.Wf (b : BookV) : Prop where
 of : b.of.length = 16
 kd : b.kd.length = 101
theorem bookOf_wf (l : List OpV) : (bookOf l).Wf := ⟨by simp, by rw [book_kd]; simp⟩
theorem BookV.Wf.len {b : BookV} (h : b.Wf) : (bookD b).length = 120 := by simp [bookD, h.of, h.kd]
theorem bk_of {b : BookV} (h : b.Wf) {a : Nat} (ha : a < 16) : (bookD b)[a]? = some (.ow 12 0 (b.of.getD a []).length ((b.of.getD a []).map oD)) := by
 have := h.of
 simp only [bookD]
 rw [List.getElem?_append_left (by simp; omega), List.getElem?_map, List.getElem?_eq_getElem (by omega)]
 simp [List.getD, show a < b.of.length by omega]
theorem bk_kd {b : BookV} (h : b.Wf) {j : Nat} (hj : j < 101) : (bookD b)[16 + j]? = some (dI (b.kd.getD j 0)) := by
 have h1 := h.of; have h2 := h.kd
 simp only [bookD]
 rw [List.getElem?_append_right (by simp; omega), List.getElem?_append_left (by simp; omega)]
 simp [List.getD, h1, show j < b.kd.length by omega]
theorem bk_tail {b : BookV} (h : b.Wf) (n : Nat) : (bookD b)[117 + n]? = [dI b.size, dI b.tT, dI b.tA][n]? := by
 have h1 := h.of; have h2 := h.kd
 simp only [bookD]
 rw [List.getElem?_append_right (by simp; omega), List.getElem?_append_right (by simp; omega)]
 congr 1; simp [h1, h2]; omega
theorem bk_size {b : BookV} (h : b.Wf) : (bookD b)[117]? = some (dI b.size) := bk_tail h 0
theorem bk_top {b : BookV} (h : b.Wf) : 118 + 2 ≤ (bookD b).length ∧ ((bookD b).drop 118).take 2 = [dI b.tT, dI b.tA] := by
 refine ⟨by rw [h.len]; omega, ?_⟩
 apply List.ext_getElem?
 intro i
 rw [List.getElem?_take]
 split
 ·rename_i hi
  rw [List.getElem?_drop, show 118 + i = 117 + (1 + i) by omega, bk_tail h]
  match i, hi with
  | 0, _ => rfl
  | 1, _ => rfl
 ·rw [List.getElem?_eq_none]; simp; omega
theorem splice_one {old : List DV} {f : Nat} (d : DV) (h : f < old.length) : splice old f [d] = old.set f d := by
 unfold splice
 rw [List.set_eq_take_append_cons_drop, if_pos h]
 simp
theorem splice_two {old : List DV} {f : Nat} (d e : DV) (h : f + 1 < old.length) : splice old f [d, e] = (old.set f d).set (f + 1) e := by
 unfold splice
 apply List.ext_getElem?
 intro i
 rw [List.getElem?_set, List.getElem?_set]
 simp only [List.length_set]
 rcases Nat.lt_trichotomy i f with g | g | g
 ·rw [if_neg (by omega), if_neg (by omega), List.append_assoc, List.getElem?_append_left (by simp; omega), List.getElem?_take, if_pos g]
 ·subst g
  rw [if_neg (by omega), if_pos rfl, if_pos (by omega), List.append_assoc, List.getElem?_append_right (by simp; omega)]
  simp [show min i old.length = i by omega]
 ·by_cases g2 : i = f + 1
  ·subst g2
   rw [if_pos rfl, if_pos h, List.append_assoc, List.getElem?_append_right (by simp; omega)]
   simp [show min f old.length = f by omega]
  ·rw [if_neg (by omega), if_neg (by omega), List.getElem?_append_right (by simp; omega), List.getElem?_drop]
   congr 1; simp; omega
theorem bk_setOf {b : BookV} (h : b.Wf) {a : Nat} (ha : a < 16) (l : List OpV) (n : Nat) (hn : n = l.length) : splice ((bookD b).set a .no) a [.ow 12 0 n (l.map oD)] = bookD { b with of := b.of.set a l } := by
 subst hn
 have h1 := h.of
 rw [splice_one _ (by simp [h.len]; omega), List.set_set]
 simp only [bookD]
 rw [List.set_append_left _ _ (by simp; omega), List.map_set]
theorem bk_setKd {b : BookV} (h : b.Wf) {j : Nat} (hj : j < 101) (x : Int) : splice (bookD b) (16 + j) [dI x] = bookD { b with kd := b.kd.set j x } := by
 have h1 := h.of; have h2 := h.kd
 rw [splice_one _ (by simp [h.len]; omega)]
 simp only [bookD]
 rw [List.set_append_right _ _ (by simp; omega), List.set_append_left _ _ (by simp; omega), List.map_set]
 congr 3; simp; omega
theorem bk_setSize {b : BookV} (h : b.Wf) (x : Int) : splice (bookD b) 117 [dI x] = bookD { b with size := x } := by
 have h1 := h.of; have h2 := h.kd
 rw [splice_one _ (by simp [h.len])]
 simp only [bookD]
 rw [List.set_append_right _ _ (by simp; omega), List.set_append_right _ _ (by simp; omega)]
 simp [h1, h2]
theorem bk_setTop {b : BookV} (h : b.Wf) (t a : Int) : splice (bookD b) 118 [dI t, dI a] = bookD { b with tT := t, tA := a } := by
 have h1 := h.of; have h2 := h.kd
 rw [splice_two _ _ (by simp [h.len])]
 simp only [bookD]
 rw [List.set_append_right _ _ (by simp; omega), List.set_append_right _ _ (by simp; omega), List.set_append_right _ _ (by simp; omega), List.set_append_right _ _ (by simp; omega)]
 simp [h1, h2]
theorem bkl_setOf {b : BookV} (h : b.Wf) {a : Nat} (ha : a < 16) (l : List OpV) (n : Nat) (hn : n = l.length) : [(bookD b).set a .no].set 0 (splice ((bookD b).set a .no) a [.ow 12 0 n (l.map oD)]) = [bookD { b with of := b.of.set a l }] := by
 rw [List.set_cons_zero, bk_setOf h ha l n hn]
theorem bkl_setKd {b : BookV} (h : b.Wf) {j : Nat} (hj : j < 101) (x : Int) : [bookD b].set 0 (splice (bookD b) (16 + j) [dI x]) = [bookD { b with kd := b.kd.set j x }] := by
 rw [List.set_cons_zero, bk_setKd h hj x]
theorem bkl_setSize {b : BookV} (h : b.Wf) (x : Int) : [bookD b].set 0 (splice (bookD b) 117 [dI x]) = [bookD { b with size := x }] := by
 rw [List.set_cons_zero, bk_setSize h x]
theorem bkl_setTop {b : BookV} (h : b.Wf) (t a : Int) : [bookD b].set 0 (splice (bookD b) 118 [dI t, dI a]) = [bookD { b with tT := t, tA := a }] := by
 rw [List.set_cons_zero, bk_setTop h t a]
theorem i_thing (o : OpV) : CallD Try.prog id_impl_Op_thing [vO o] [] (vI .i64 (thI o.kind)) [] := by
 refine F_impl_Op_thing ?_
 try (conv => whnf)
 repeat' (first
  | (refine SeqJ.thru ?_; conv => whnf)
  | (refine br_dec (fun _ => ?_) (fun _ => ?_) <;> first | (exfalso; omega) | contradiction | conv => whnf)
  | (refine br_not ?_; conv => whnf)
  | (refine br_bne (fun _ => ?_) (fun _ => ?_) <;> first | (exfalso; omega) | contradiction | conv => whnf)
  | (refine br_beq (fun _ => ?_) (fun _ => ?_) <;> first | (exfalso; omega) | contradiction | conv => whnf))
 all_goals
  refine Out.mk true [] [] ?_
  try (conv => whnf)
 ·exact ⟨by rw [thI, if_pos (by omega)], rfl⟩
 ·exact ⟨by rw [thI, if_neg (by omega)], rfl⟩
theorem BookV.Wf.put {b : BookV} (h : b.Wf) (o : OpV) : (b.put o).Wf := ⟨by simp [BookV.put, h.of], by simp [BookV.put, h.kd]⟩
theorem i_put (b : BookV) (hb : b.Wf) (o : OpV) (ha : actOk o.actor) (ho : 1 ≤ o.obj ∧ o.obj ≤ 100) (hn : (b.of.getD o.actor.toNat []).length ≤ 2 ^ 20) (hs : 0 ≤ b.size ∧ b.size ≤ 2 ^ 40) :
  CallN Try.prog id_impl_book_put [.one (.ep (.v 0) 120 0 0), vO o] [.own 120 [bookD b]] [] (.tup []) [.own 120 [bookD (b.put o)]] := by
 refine F_impl_book_put ?_
 obtain ⟨a0, a1⟩ := ha
 have w1 : ({ b with of := b.of.set o.actor.toNat (b.of.getD o.actor.toNat [] ++ [o]) } : BookV).Wf := ⟨by simp [hb.of], hb.kd⟩
 have w2 : ({ b with of := b.of.set o.actor.toNat (b.of.getD o.actor.toNat [] ++ [o]), kd := b.kd.set o.obj.toNat (thI o.kind) } : BookV).Wf := ⟨by simp [hb.of], by simp [hb.kd]⟩
 have w3 : ({ b with of := b.of.set o.actor.toNat (b.of.getD o.actor.toNat [] ++ [o]), kd := b.kd.set o.obj.toNat (thI o.kind), size := b.size + 1 } : BookV).Wf := ⟨by simp [hb.of], by simp [hb.kd]⟩
 try (conv => whnf)
 repeat (first
  | (refine Need.mk ?_ ?_; (focus (first | omega | (simp only [List.length_map, List.length_append, List.length_cons, List.length_nil, List.length_replicate]; omega) | rfl | (first | exact fz_self _ _ (fun _ => rfl) | exact fz_pl rfl | (refine Fz.append ?_ ?_ <;> first | exact fz_self _ _ (fun _ => rfl) | exact fz_pl rfl) | (refine Fz.append (Fz.append ?_ ?_) ?_ <;> first | exact fz_self _ _ (fun _ => rfl) | exact fz_pl rfl)) | ((conv => whnf); (repeat (first | (refine Need.mk (by first | rfl | omega | (simp; done)) ?_; conv => whnf) | (refine Pick.mk ?_ ?_ ?_; rotate_left; (focus (first | with_reducible exact xor_u8 _ _ | (with_reducible refine xor_i64 ?_ ?_; all_goals omega) | (with_reducible refine xor_u32 ?_ ?_; all_goals omega) | exact map_snoc oD _ _ | (dsimp only; refine wid ?_ ?_ <;> omega) | (refine bkl_setTop ?_ _ _; assumption) | (refine bkl_setSize ?_ _; assumption) | (refine bkl_setKd ?_ ?_ _ <;> first | assumption | omega) | (refine bkl_setOf ?_ ?_ _ _ ?_ <;> first | assumption | omega | (simp; done)) | (refine bk_top ?_; assumption) | (with_reducible refine bk_size ?_; assumption) | (with_reducible refine bk_kd ?_ ?_ <;> first | assumption | omega) | (with_reducible refine bk_of ?_ ?_ <;> first | assumption | omega) | assumption | with_reducible exact set_byN _ _ _ _ | with_reducible exact set_byI _ _ _ _ | with_reducible exact set_inN _ _ _ _ | with_reducible exact set_inI _ _ _ _ | with_reducible exact set_stN _ _ _ _ | with_reducible exact set_tsN _ _ _ _ | with_reducible exact set_tsI _ _ _ _ | with_reducible exact set_boN _ _ _ _ | with_reducible exact set_boI _ _ _ _ | (with_reducible refine get_mapN _ _ _ ?_; first | omega | (simp; omega)) | (with_reducible refine get_mapI _ _ _ ?_ ?_ <;> first | omega | (simp; omega)) | exact bs_beq _ _ | exact bs_less _ _ | exact bs_leq _ _ | with_reducible exact bs_app _ _ | (refine bs_get _ _ ?_; omega) | (refine bs_int _ _ ?_ ?_ <;> omega) | with_reducible exact sl_map0 _ _ _ | with_reducible exact sl_mapN _ _ _ | with_reducible exact sl_map _ _ _ _ | exact bs_extract0 _ _ | exact bs_extractN _ _ | exact bs_extract _ _ _ | (refine bnd_id ?_; omega) | (refine bnd_sub ?_ ?_ <;> omega) | (refine bnd_add ?_; omega) | (refine bnd_subN ?_ ?_ <;> omega) | (refine bnd_int ?_ ?_ <;> omega) | ((show @Eq Nat (_ + Int.toNat _ * _) _); simp only [Int.toNat_natCast, Nat.zero_add, Nat.mul_one]; rfl) | ((show @Eq (List _) (List.set [_] _ _) _); simp only [List.set_cons_zero]; rfl) | exact List.length_map _ | exact size_bs _ | (simp only [List.length_map, List.length_append, List.length_cons, List.length_nil, List.length_replicate, Nat.zero_add]; rfl) | with_reducible exact List.nil_append _ | with_reducible exact map_app _ _ _ | exact map_snoc byD _ _ | exact map_snoc inD _ _ | exact map_snoc stD _ _ | exact map_snoc tsD _ _ | (simp only [chunks]; rfl) | (refine wid ?_ ?_ <;> omega) | exact wby _ | with_reducible exact wby32 _ | with_reducible exact wu32 _ | exact wby64 _ | exact shr8 _ | exact shr16 _ | exact shr24 _ | exact shr32 _ | (refine tmodn ?_; omega) | (refine wdiv ?_ ?_ ?_ <;> omega) | exact wbyte _ | exact natlit _ | exact rep_by _ | exact rep_in _ | exact rep_bo _ | exact rep_st _ | (refine pick_nat _ _ _ ?_; omega) | (refine pick_int _ _ _ ?_ ?_ <;> omega) | (refine SlOf.full ?_; first | (simp; done) | (simp; omega)) | (with_reducible refine SlOf.pre _ _ ?_; first | omega | (simp; omega)) | (refine SlF.self _ _ ?_ ?_; (first | rfl | omega | (simp; done) | (simp; omega)); (exact fun _ => rfl)) | (refine SlF.pre _ _ ?_ ?_; (first | omega | (simp; omega)); (exact fun _ => rfl)) | (refine SlF.same ?_ ?_; (first | rfl | omega | (simp; done) | (simp; omega)); (first | exact fz_self _ _ (fun _ => rfl) | exact fz_pl rfl | (refine Fz.append ?_ ?_ <;> first | exact fz_self _ _ (fun _ => rfl) | exact fz_pl rfl) | (refine Fz.append (Fz.append ?_ ?_) ?_ <;> first | exact fz_self _ _ (fun _ => rfl) | exact fz_pl rfl))) | (simp only [Int.toNat_natCast, Nat.zero_add, Nat.mul_one]; rfl) | ((show @Eq (Option CV) _ _); rfl) | ((fail_if_success (show @Eq (Option _) _ _)); rfl) | ((show @Eq (Option _) _ _); simp only [List.getElem?_cons_zero, List.getElem?_cons_succ]; done) | ((show @Eq (Option _) _ _); simp only [List.getElem?_cons_zero, List.getElem?_cons_succ]; rfl) | with_reducible rfl)); conv => whnf))); exact Done.mk trivial))); conv => whnf)
  | (refine Pick.mk ?_ ?_ ?_; rotate_left; (focus (first | exact map_snoc oD _ _ | (refine bkl_setOf ?_ ?_ _ _ ?_ <;> first | assumption | omega | (simp; done)) | (with_reducible refine bk_of ?_ ?_ <;> first | assumption | omega) | ((show @Eq Nat (_ + Int.toNat _ * _) _); simp only [Int.toNat_natCast, Nat.zero_add, Nat.mul_one]; rfl) | ((show @Eq (List _) (List.set [_] _ _) _); simp only [List.set_cons_zero]; rfl) | (simp only [List.length_map, List.length_append, List.length_cons, List.length_nil, List.length_replicate, Nat.zero_add]; rfl) | (simp only [chunks]; rfl) | (refine SlOf.full ?_; first | (simp; done) | (simp; omega)) | ((show @Eq (Option _) _ _); simp only [List.getElem?_cons_zero, List.getElem?_cons_succ]; rfl))); conv => whnf)
  | (refine OwnQ.mk true ?_; conv => whnf))
 refine Hand.mk [] ?_
 try (conv => whnf)
 refine CallW.d (i_thing o) ?_
 try (conv => whnf)
 repeat (first
  | (refine Need.mk ?_ ?_; (focus (first | omega | (simp only [List.length_map, List.length_append, List.length_cons, List.length_nil, List.length_replicate]; omega) | ((conv => whnf); (repeat (first | (refine Need.mk (by first | rfl | omega | (simp; done)) ?_; conv => whnf) | (refine Pick.mk ?_ ?_ ?_; rotate_left; (focus (first | with_reducible exact xor_u8 _ _ | (with_reducible refine xor_i64 ?_ ?_; all_goals omega) | (with_reducible refine xor_u32 ?_ ?_; all_goals omega) | exact map_snoc oD _ _ | (dsimp only; refine wid ?_ ?_ <;> omega) | (refine bkl_setTop ?_ _ _; assumption) | (refine bkl_setSize ?_ _; assumption) | (refine bkl_setKd ?_ ?_ _ <;> first | assumption | omega) | (refine bkl_setOf ?_ ?_ _ _ ?_ <;> first | assumption | omega | (simp; done)) | (refine bk_top ?_; assumption) | (with_reducible refine bk_size ?_; assumption) | (with_reducible refine bk_kd ?_ ?_ <;> first | assumption | omega) | (with_reducible refine bk_of ?_ ?_ <;> first | assumption | omega) | assumption | with_reducible exact set_byN _ _ _ _ | with_reducible exact set_byI _ _ _ _ | with_reducible exact set_inN _ _ _ _ | with_reducible exact set_inI _ _ _ _ | with_reducible exact set_stN _ _ _ _ | with_reducible exact set_tsN _ _ _ _ | with_reducible exact set_tsI _ _ _ _ | with_reducible exact set_boN _ _ _ _ | with_reducible exact set_boI _ _ _ _ | (with_reducible refine get_mapN _ _ _ ?_; first | omega | (simp; omega)) | (with_reducible refine get_mapI _ _ _ ?_ ?_ <;> first | omega | (simp; omega)) | exact bs_beq _ _ | exact bs_less _ _ | exact bs_leq _ _ | with_reducible exact bs_app _ _ | (refine bs_get _ _ ?_; omega) | (refine bs_int _ _ ?_ ?_ <;> omega) | with_reducible exact sl_map0 _ _ _ | with_reducible exact sl_mapN _ _ _ | with_reducible exact sl_map _ _ _ _ | exact bs_extract0 _ _ | exact bs_extractN _ _ | exact bs_extract _ _ _ | (refine bnd_id ?_; omega) | (refine bnd_sub ?_ ?_ <;> omega) | (refine bnd_add ?_; omega) | (refine bnd_subN ?_ ?_ <;> omega) | (refine bnd_int ?_ ?_ <;> omega) | ((show @Eq Nat (_ + Int.toNat _ * _) _); simp only [Int.toNat_natCast, Nat.zero_add, Nat.mul_one]; rfl) | ((show @Eq (List _) (List.set [_] _ _) _); simp only [List.set_cons_zero]; rfl) | exact List.length_map _ | exact size_bs _ | (simp only [List.length_map, List.length_append, List.length_cons, List.length_nil, List.length_replicate, Nat.zero_add]; rfl) | with_reducible exact List.nil_append _ | with_reducible exact map_app _ _ _ | exact map_snoc byD _ _ | exact map_snoc inD _ _ | exact map_snoc stD _ _ | exact map_snoc tsD _ _ | (simp only [chunks]; rfl) | (refine wid ?_ ?_ <;> omega) | exact wby _ | with_reducible exact wby32 _ | with_reducible exact wu32 _ | exact wby64 _ | exact shr8 _ | exact shr16 _ | exact shr24 _ | exact shr32 _ | (refine tmodn ?_; omega) | (refine wdiv ?_ ?_ ?_ <;> omega) | exact wbyte _ | exact natlit _ | exact rep_by _ | exact rep_in _ | exact rep_bo _ | exact rep_st _ | (refine pick_nat _ _ _ ?_; omega) | (refine pick_int _ _ _ ?_ ?_ <;> omega) | (refine SlOf.full ?_; first | (simp; done) | (simp; omega)) | (with_reducible refine SlOf.pre _ _ ?_; first | omega | (simp; omega)) | (refine SlF.self _ _ ?_ ?_; (first | rfl | omega | (simp; done) | (simp; omega)); (exact fun _ => rfl)) | (refine SlF.pre _ _ ?_ ?_; (first | omega | (simp; omega)); (exact fun _ => rfl)) | (refine SlF.same ?_ ?_; (first | rfl | omega | (simp; done) | (simp; omega)); (first | exact fz_self _ _ (fun _ => rfl) | exact fz_pl rfl | (refine Fz.append ?_ ?_ <;> first | exact fz_self _ _ (fun _ => rfl) | exact fz_pl rfl) | (refine Fz.append (Fz.append ?_ ?_) ?_ <;> first | exact fz_self _ _ (fun _ => rfl) | exact fz_pl rfl))) | (simp only [Int.toNat_natCast, Nat.zero_add, Nat.mul_one]; rfl) | ((show @Eq (Option CV) _ _); rfl) | ((fail_if_success (show @Eq (Option _) _ _)); rfl) | ((show @Eq (Option _) _ _); simp only [List.getElem?_cons_zero, List.getElem?_cons_succ]; done) | ((show @Eq (Option _) _ _); simp only [List.getElem?_cons_zero, List.getElem?_cons_succ]; rfl) | with_reducible rfl)); conv => whnf))); exact Done.mk trivial))); conv => whnf)
  | (refine Pick.mk ?_ ?_ ?_; rotate_left; (focus (first | (dsimp only; refine wid ?_ ?_ <;> omega) | (refine bkl_setSize ?_ _; assumption) | (refine bkl_setKd ?_ ?_ _ <;> first | assumption | omega) | (refine bk_top ?_; assumption) | (with_reducible refine bk_size ?_; assumption) | ((show @Eq Nat (_ + Int.toNat _ * _) _); simp only [Int.toNat_natCast, Nat.zero_add, Nat.mul_one]; rfl) | (simp only [List.length_map, List.length_append, List.length_cons, List.length_nil, List.length_replicate, Nat.zero_add]; rfl) | ((show @Eq (Option _) _ _); simp only [List.getElem?_cons_zero, List.getElem?_cons_succ]; rfl))); conv => whnf))
 refine Hand.mk [] ?_
 try (conv => whnf)
 refine CallW.d (i_stamp o) ?_
 try (conv => whnf)
 repeat (refine Need.mk ?_ ?_; (focus (((conv => whnf); (repeat (first | (refine Need.mk (by first | rfl | omega | (simp; done)) ?_; conv => whnf) | (refine Pick.mk ?_ ?_ ?_; rotate_left; (focus (first | with_reducible exact xor_u8 _ _ | (with_reducible refine xor_i64 ?_ ?_; all_goals omega) | (with_reducible refine xor_u32 ?_ ?_; all_goals omega) | exact map_snoc oD _ _ | (dsimp only; refine wid ?_ ?_ <;> omega) | (refine bkl_setTop ?_ _ _; assumption) | (refine bkl_setSize ?_ _; assumption) | (refine bkl_setKd ?_ ?_ _ <;> first | assumption | omega) | (refine bkl_setOf ?_ ?_ _ _ ?_ <;> first | assumption | omega | (simp; done)) | (refine bk_top ?_; assumption) | (with_reducible refine bk_size ?_; assumption) | (with_reducible refine bk_kd ?_ ?_ <;> first | assumption | omega) | (with_reducible refine bk_of ?_ ?_ <;> first | assumption | omega) | assumption | with_reducible exact set_byN _ _ _ _ | with_reducible exact set_byI _ _ _ _ | with_reducible exact set_inN _ _ _ _ | with_reducible exact set_inI _ _ _ _ | with_reducible exact set_stN _ _ _ _ | with_reducible exact set_tsN _ _ _ _ | with_reducible exact set_tsI _ _ _ _ | with_reducible exact set_boN _ _ _ _ | with_reducible exact set_boI _ _ _ _ | (with_reducible refine get_mapN _ _ _ ?_; first | omega | (simp; omega)) | (with_reducible refine get_mapI _ _ _ ?_ ?_ <;> first | omega | (simp; omega)) | exact bs_beq _ _ | exact bs_less _ _ | exact bs_leq _ _ | with_reducible exact bs_app _ _ | (refine bs_get _ _ ?_; omega) | (refine bs_int _ _ ?_ ?_ <;> omega) | with_reducible exact sl_map0 _ _ _ | with_reducible exact sl_mapN _ _ _ | with_reducible exact sl_map _ _ _ _ | exact bs_extract0 _ _ | exact bs_extractN _ _ | exact bs_extract _ _ _ | (refine bnd_id ?_; omega) | (refine bnd_sub ?_ ?_ <;> omega) | (refine bnd_add ?_; omega) | (refine bnd_subN ?_ ?_ <;> omega) | (refine bnd_int ?_ ?_ <;> omega) | ((show @Eq Nat (_ + Int.toNat _ * _) _); simp only [Int.toNat_natCast, Nat.zero_add, Nat.mul_one]; rfl) | ((show @Eq (List _) (List.set [_] _ _) _); simp only [List.set_cons_zero]; rfl) | exact List.length_map _ | exact size_bs _ | (simp only [List.length_map, List.length_append, List.length_cons, List.length_nil, List.length_replicate, Nat.zero_add]; rfl) | with_reducible exact List.nil_append _ | with_reducible exact map_app _ _ _ | exact map_snoc byD _ _ | exact map_snoc inD _ _ | exact map_snoc stD _ _ | exact map_snoc tsD _ _ | (simp only [chunks]; rfl) | (refine wid ?_ ?_ <;> omega) | exact wby _ | with_reducible exact wby32 _ | with_reducible exact wu32 _ | exact wby64 _ | exact shr8 _ | exact shr16 _ | exact shr24 _ | exact shr32 _ | (refine tmodn ?_; omega) | (refine wdiv ?_ ?_ ?_ <;> omega) | exact wbyte _ | exact natlit _ | exact rep_by _ | exact rep_in _ | exact rep_bo _ | exact rep_st _ | (refine pick_nat _ _ _ ?_; omega) | (refine pick_int _ _ _ ?_ ?_ <;> omega) | (refine SlOf.full ?_; first | (simp; done) | (simp; omega)) | (with_reducible refine SlOf.pre _ _ ?_; first | omega | (simp; omega)) | (refine SlF.self _ _ ?_ ?_; (first | rfl | omega | (simp; done) | (simp; omega)); (exact fun _ => rfl)) | (refine SlF.pre _ _ ?_ ?_; (first | omega | (simp; omega)); (exact fun _ => rfl)) | (refine SlF.same ?_ ?_; (first | rfl | omega | (simp; done) | (simp; omega)); (first | exact fz_self _ _ (fun _ => rfl) | exact fz_pl rfl | (refine Fz.append ?_ ?_ <;> first | exact fz_self _ _ (fun _ => rfl) | exact fz_pl rfl) | (refine Fz.append (Fz.append ?_ ?_) ?_ <;> first | exact fz_self _ _ (fun _ => rfl) | exact fz_pl rfl))) | (simp only [Int.toNat_natCast, Nat.zero_add, Nat.mul_one]; rfl) | ((show @Eq (Option CV) _ _); rfl) | ((fail_if_success (show @Eq (Option _) _ _)); rfl) | ((show @Eq (Option _) _ _); simp only [List.getElem?_cons_zero, List.getElem?_cons_succ]; done) | ((show @Eq (Option _) _ _); simp only [List.getElem?_cons_zero, List.getElem?_cons_succ]; rfl) | with_reducible rfl)); conv => whnf))); exact Done.mk trivial))); conv => whnf)
 refine Hand.mk [] ?_
 try (conv => whnf)
 refine CallW.d (i_StampLess b.tT b.tA o.time o.actor) ?_
 try (conv => whnf)
 try (conv => whnf)
 repeat' (first
  | (refine br_dec (fun _ => ?_) (fun _ => ?_) <;> first | (exfalso; omega) | contradiction | conv => whnf)
  | (refine br_not ?_; conv => whnf)
  | (refine br_bne (fun _ => ?_) (fun _ => ?_) <;> first | (exfalso; omega) | contradiction | conv => whnf)
  | (refine br_beq (fun _ => ?_) (fun _ => ?_) <;> first | (exfalso; omega) | contradiction | conv => whnf))
 ·rename_i hlt
  refine Hand.mk [] ?_
  try (conv => whnf)
  refine CallW.d (i_stamp o) ?_
  try (conv => whnf)
  repeat (first
   | (refine Need.mk ?_ ?_; (focus ((simp only [List.length_map, List.length_append, List.length_cons, List.length_nil, List.length_replicate]; omega))); conv => whnf)
   | (refine Pick.mk ?_ ?_ ?_; rotate_left; (focus (first | (refine bkl_setTop ?_ _ _; assumption) | (simp only [List.length_map, List.length_append, List.length_cons, List.length_nil, List.length_replicate, Nat.zero_add]; rfl))); conv => whnf))
  refine Out.mk false [0, 1, 2, 3, 4] [] ?_
  try (conv => whnf)
  exact ⟨rfl, by simp only [BookV.put, if_pos hlt]⟩
 ·rename_i hlt
  refine Out.mk false [0, 1, 2, 3, 4] [] ?_
  try (conv => whnf)
  exact ⟨rfl, by simp only [BookV.put, if_neg hlt]⟩
end Go.Proofs.Ytpdjehnlejjfmaa.D
