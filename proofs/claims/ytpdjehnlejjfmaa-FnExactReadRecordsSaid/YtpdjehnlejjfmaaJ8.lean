/- What the laws do with logs: copied, counted, compared. -/
import Derived.Test.YtpdjehnlejjfmaaJ7
set_option linter.unusedVariables false
set_option linter.unusedSimpArgs false
namespace Go.Proofs.Ytpdjehnlejjfmaa.D
open Go.RowKit
set_option maxRecDepth 100000
set_option maxHeartbeats 4000000
set_option linter.unusedVariables false
set_option linter.unusedSimpArgs false

abbrev vL (l : List OpV) : SV := .one (.dv (.sl (l.map oD)))
abbrev dJ (n : Int) : DV := .sc (.int .i64 n)
theorem l_eqOpS (l : List OpV) (hl : l.length ≤ 2 ^ 39) (hd : ∀ o ∈ l, o.deps.length ≤ 2 ^ 39 ∧ o.key.length ≤ 2 ^ 39 ∧ o.text.length ≤ 2 ^ 39) : CallD Try.prog id_laws_eqOpS [vL l, vL l] [] (vB true) [] := by
 refine F_laws_eqOpS ?_
 try (conv => whnf)
 repeat' (first
  | (refine Pick.mk ?_ ?_ ?_; rotate_left; (focus (exact List.length_map _)); conv => whnf)
  | (refine SeqJ.thru ?_; conv => whnf)
  | (refine br_dec (fun _ => ?_) (fun _ => ?_) <;> first | (exfalso; omega) | contradiction | conv => whnf)
  | (refine br_not ?_; conv => whnf)
  | (refine br_bne (fun _ => ?_) (fun _ => ?_) <;> first | (exfalso; omega) | contradiction | conv => whnf)
  | (refine br_beq (fun _ => ?_) (fun _ => ?_) <;> first | (exfalso; omega) | contradiction | conv => whnf))
 refine LoopE.mk (fun i : Nat => mk [(0, vL l), (1, vL l), (5, vI .i64 i)] []) (fun i => i ≤ l.length) (fun i => l.length - i) 0 (by omega) (LeX.of ?_) ?_
 ·try (conv => whnf)
  repeat (refine Need.mk ?_ ?_; (focus (first | omega | (simp; done))); conv => whnf)
  trivial
 ·intro i hi
  try (conv => whnf)
  repeat' (first
   | (refine Pick.mk ?_ ?_ ?_; rotate_left; (focus (first | exact List.length_map _ | (refine pick_nat _ _ _ ?_; omega))); conv => whnf)
   | (refine SeqJ.thru ?_; conv => whnf)
   | (refine br_dec (fun _ => ?_) (fun _ => ?_) <;> first | (exfalso; omega) | contradiction | conv => whnf)
   | (refine br_not ?_; conv => whnf)
   | (refine br_bne (fun _ => ?_) (fun _ => ?_) <;> first | (exfalso; omega) | contradiction | conv => whnf)
   | (refine br_beq (fun _ => ?_) (fun _ => ?_) <;> first | (exfalso; omega) | contradiction | conv => whnf))
  ·obtain ⟨d1, d2, d3⟩ := hd (l[i]'(by omega)) (List.getElem_mem _)
   refine Hand.mk [] ?_
   try (conv => whnf)
   refine CallW.d (l_eqOp (l[i]'(by omega)) d1 d2 d3) ?_
   try (conv => whnf)
   repeat (refine Pick.mk ?_ ?_ ?_; rotate_left; (focus ((refine wid ?_ ?_ <;> omega))); conv => whnf)
   try (conv => whnf)
   repeat' (first
    | (refine br_dec (fun _ => ?_) (fun _ => ?_) <;> first | (exfalso; omega) | contradiction | conv => whnf)
    | (refine br_not ?_; conv => whnf)
    | (refine br_bne (fun _ => ?_) (fun _ => ?_) <;> first | (exfalso; omega) | contradiction | conv => whnf)
    | (refine br_beq (fun _ => ?_) (fun _ => ?_) <;> first | (exfalso; omega) | contradiction | conv => whnf))
   refine Pick.mk (i + 1) (by constructor <;> first | omega | (simp only []; omega)) (LeX.of ?_)
   try (conv => whnf)
   repeat (refine Need.mk ?_ ?_; (focus (first | omega | (simp; done))); conv => whnf)
   trivial
  ·refine Out.mk true [] [] ?_
   try (conv => whnf)
   exact ⟨rfl, rfl⟩
end Go.Proofs.Ytpdjehnlejjfmaa.D
/- Operations read out of bytes, by the program. -/
namespace Go.Proofs.Ytpdjehnlejjfmaa.D
open Go.RowKit
set_option maxRecDepth 100000
set_option maxHeartbeats 4000000
set_option linter.unusedVariables false
set_option linter.unusedSimpArgs false

def opOfs (n : List Int) (w : List (List UInt8)) : OpV := ⟨n.getD 0 0, n.getD 1 0, n.getD 2 0, n.drop 9, n.getD 3 0, n.getD 4 0, zag (n.getD 5 0).toNat, n.getD 6 0, n.getD 7 0, n.getD 8 0, w.getD 0 [], w.getD 1 []⟩
def partsG (b : List UInt8) : Option (List Int × List (List UInt8)) := match getR b 0 with
 | none => none
 |some (n, c) => match getT b c with
  | none => none
  | some (w, d) => if d = b.length ∧ n.length = 25 ∧ w.length = 2 then some (n, w) else none
def opG (b : List UInt8) : Option OpV := match partsG b with | none => none | some (n, w) => if OpOk (opOfs n w) then some (opOfs n w) else none
def recG (l : List UInt8) (a : Nat) : Option (OpV × Nat) := match get l a with
 | none => none
 | some (n, b) => if n + 4 ≤ l.length - b ∧ four (sumH 2166136261 ((l.drop b).take n)) = (l.drop (b + n)).take 4 then (opG ((l.drop b).take n)).map fun o => (o, b + n + 4) else none
theorem recG_lt {l : List UInt8} {a c : Nat} {o : OpV} (h : recG l a = some (o, c)) : a < c ∧ c ≤ l.length := by
 unfold recG at h
 split at h
 ·simp at h
 ·rename_i n b hg
  obtain ⟨g1, g2, g3, g4, g5⟩ := get_inv hg
  split at h
  ·rename_i hc
   cases hp : opG ((l.drop b).take n) with
   | none => rw [hp] at h; simp at h
   | some p => rw [hp] at h; simp at h; omega
  ·simp at h
def recsG (l : List UInt8) (a : Nat) : List OpV × Nat := match h : recG l a with
 | none => ([], a)
 | some (o, c) => (o :: (recsG l c).1, (recsG l c).2)
termination_by l.length - a
decreasing_by all_goals have := recG_lt h; omega
theorem recsG_none {l : List UInt8} {a : Nat} (h : recG l a = none) : recsG l a = ([], a) := by
 rw [recsG]; split
 ·rfl
 ·rename_i e; rw [h] at e; simp at e
theorem recsG_some {l : List UInt8} {a c : Nat} {o : OpV} (h : recG l a = some (o, c)) : recsG l a = (o :: (recsG l c).1, (recsG l c).2) := by
 rw [recsG]; split
 ·rename_i e; rw [h] at e; simp at e
 ·rename_i e; rw [h] at e; simp at e; obtain ⟨rfl, rfl⟩ := e; rfl
theorem nine {n : List Int} (h : n.length = 25) : ∃ n0 n1 n2 n3 n4 n5 n6 n7 n8 d, n = n0 :: n1 :: n2 :: n3 :: n4 :: n5 :: n6 :: n7 :: n8 :: d ∧ d.length = 16 := by
 match n, h with
 | n0 :: n1 :: n2 :: n3 :: n4 :: n5 :: n6 :: n7 :: n8 :: d, h => exact ⟨n0, n1, n2, n3, n4, n5, n6, n7, n8, d, rfl, by simpa using h⟩
theorem two {w : List (List UInt8)} (h : w.length = 2) : ∃ s t, w = [s, t] := by
 match w, h with
 | [s, t], _ => exact ⟨s, t, rfl⟩
theorem i_zag' (x z : Int) (h : inM x) (hz : zag x.toNat = z) : CallD Try.prog id_impl_zag [vI .i64 x] [] (vI .i64 z) [] := by
 unfold inM M4 at h
 subst hz
 obtain ⟨z, rfl⟩ : ∃ z : Nat, x = z := ⟨x.toNat, by omega⟩
 exact i_zag z (by omega)
theorem i_opFrom (n : List Int) (z : Int) (s t : List UInt8) (hn : n.length = 25) (h5 : inM (n[5]'(by omega))) (hz : zag (n[5]'(by omega)).toNat = z) :
  CallMD Try.prog id_impl_opFrom [.one (.os (.v 0) 1 0 n.length), vS (bs s), vS (bs t)] [.own 1 (n.map inD)] []
   (.agg [cI (n[0]'(by omega)), cI (n[1]'(by omega)), cI (n[2]'(by omega)), .os (.v 0) 1 9 (n.length - 9), cI (n[3]'(by omega)), cI (n[4]'(by omega)), cI z, cI (n[6]'(by omega)), cI (n[7]'(by omega)), cI (n[8]'(by omega)), cS (bs s), cS (bs t)]) [.own 1 (n.map inD)] := by
 refine F_impl_opFrom ?_
 try (conv => whnf)
 repeat (first
  | (refine Need.mk ?_ ?_; (focus (omega)); conv => whnf)
  | (refine Pick.mk ?_ ?_ ?_; rotate_left; (focus (first | (with_reducible refine get_mapI _ _ _ ?_ ?_ <;> first | omega | (simp; omega)) | (refine bnd_int ?_ ?_ <;> omega))); conv => whnf))
 refine Hand.mk [] ?_
 try (conv => whnf)
 refine CallW.d (i_zag' (n[5]'(by omega)) z h5 hz) ?_
 try (conv => whnf)
 repeat (refine Need.mk ?_ ?_; (focus (((conv => whnf); (repeat (first | (refine Need.mk (by first | rfl | omega | (simp; done)) ?_; conv => whnf) | (refine Pick.mk ?_ ?_ ?_; rotate_left; (focus (first | with_reducible exact xor_u8 _ _ | (with_reducible refine xor_i64 ?_ ?_; all_goals omega) | (with_reducible refine xor_u32 ?_ ?_; all_goals omega) | assumption | with_reducible exact set_byN _ _ _ _ | with_reducible exact set_byI _ _ _ _ | with_reducible exact set_inN _ _ _ _ | with_reducible exact set_inI _ _ _ _ | with_reducible exact set_stN _ _ _ _ | with_reducible exact set_tsN _ _ _ _ | with_reducible exact set_tsI _ _ _ _ | with_reducible exact set_boN _ _ _ _ | with_reducible exact set_boI _ _ _ _ | (with_reducible refine get_mapN _ _ _ ?_; first | omega | (simp; omega)) | (with_reducible refine get_mapI _ _ _ ?_ ?_ <;> first | omega | (simp; omega)) | exact bs_beq _ _ | exact bs_less _ _ | exact bs_leq _ _ | with_reducible exact bs_app _ _ | (refine bs_get _ _ ?_; omega) | (refine bs_int _ _ ?_ ?_ <;> omega) | with_reducible exact sl_map0 _ _ _ | with_reducible exact sl_mapN _ _ _ | with_reducible exact sl_map _ _ _ _ | exact bs_extract0 _ _ | exact bs_extractN _ _ | exact bs_extract _ _ _ | (refine bnd_id ?_; omega) | (refine bnd_sub ?_ ?_ <;> omega) | (refine bnd_add ?_; omega) | (refine bnd_subN ?_ ?_ <;> omega) | (refine bnd_int ?_ ?_ <;> omega) | ((show @Eq Nat (_ + Int.toNat _ * _) _); simp only [Int.toNat_natCast, Nat.zero_add, Nat.mul_one]; rfl) | ((show @Eq (List _) (List.set [_] _ _) _); simp only [List.set_cons_zero]; rfl) | exact List.length_map _ | exact size_bs _ | (simp only [List.length_map, List.length_append, List.length_cons, List.length_nil, List.length_replicate, Nat.zero_add]; rfl) | with_reducible exact List.nil_append _ | with_reducible exact map_app _ _ _ | exact map_snoc byD _ _ | exact map_snoc inD _ _ | exact map_snoc stD _ _ | exact map_snoc tsD _ _ | (simp only [chunks]; rfl) | (refine wid ?_ ?_ <;> omega) | exact wby _ | with_reducible exact wby32 _ | with_reducible exact wu32 _ | exact wby64 _ | exact shr8 _ | exact shr16 _ | exact shr24 _ | exact shr32 _ | (refine tmodn ?_; omega) | (refine wdiv ?_ ?_ ?_ <;> omega) | exact wbyte _ | exact natlit _ | exact rep_by _ | exact rep_in _ | exact rep_bo _ | exact rep_st _ | (refine pick_nat _ _ _ ?_; omega) | (refine pick_int _ _ _ ?_ ?_ <;> omega) | (refine SlOf.full ?_; first | (simp; done) | (simp; omega)) | (with_reducible refine SlOf.pre _ _ ?_; first | omega | (simp; omega)) | (refine SlF.self _ _ ?_ ?_; (first | rfl | omega | (simp; done) | (simp; omega)); (exact fun _ => rfl)) | (refine SlF.pre _ _ ?_ ?_; (first | omega | (simp; omega)); (exact fun _ => rfl)) | (refine SlF.same ?_ ?_; (first | rfl | omega | (simp; done) | (simp; omega)); (first | exact fz_self _ _ (fun _ => rfl) | exact fz_pl rfl | (refine Fz.append ?_ ?_ <;> first | exact fz_self _ _ (fun _ => rfl) | exact fz_pl rfl) | (refine Fz.append (Fz.append ?_ ?_) ?_ <;> first | exact fz_self _ _ (fun _ => rfl) | exact fz_pl rfl))) | (simp only [Int.toNat_natCast, Nat.zero_add, Nat.mul_one]; rfl) | ((show @Eq (Option CV) _ _); rfl) | ((fail_if_success (show @Eq (Option _) _ _)); rfl) | ((show @Eq (Option _) _ _); simp only [List.getElem?_cons_zero, List.getElem?_cons_succ]; done) | ((show @Eq (Option _) _ _); simp only [List.getElem?_cons_zero, List.getElem?_cons_succ]; rfl) | with_reducible rfl)); conv => whnf))); exact Done.mk trivial))); conv => whnf)
 refine Out.mk false [0, 1, 2, 3, 4] [] ?_
 try (conv => whnf)
 repeat (refine Need.mk ?_ ?_; (focus ((first | exact flat_by _ | exact flat_in _ | exact flat_st _ | exact flat_ts _ | exact flat_bo _ | exact flat_cl rfl))); conv => whnf)
 exact ⟨rfl, rfl⟩
theorem i_textsB {l : List UInt8} {a : Nat} (hl : l.length ≤ 2 ^ 40) (ha : a ≤ l.length) :
  CallM Try.prog id_impl_reader_texts [.one (.ptr 0 0)] [rdR l a true] [] false fun r Lo => ∃ b : Nat, Lo = [rdR l b true] ∧ r = .one .nil ∧ b ≤ l.length := by
 refine F_impl_reader_texts ?_
 try (conv => whnf)
 refine Hand.mk [] ?_
 try (conv => whnf)
 refine CallW.n (i_numB hl ha) ?_
 rintro _ _ ⟨b, rfl, rfl, hb⟩
 try (conv => whnf)
 repeat' (first
  | (refine SeqJ.thru ?_; conv => whnf)
  | (refine br_dec (fun _ => ?_) (fun _ => ?_) <;> first | (exfalso; omega) | contradiction | conv => whnf)
  | (refine br_not ?_; conv => whnf)
  | (refine br_bne (fun _ => ?_) (fun _ => ?_) <;> first | (exfalso; omega) | contradiction | conv => whnf)
  | (refine br_beq (fun _ => ?_) (fun _ => ?_) <;> first | (exfalso; omega) | contradiction | conv => whnf))
 refine Out.mk false [0, 1, 2, 3, 4] [] ?_
 try (conv => whnf)
 exact ⟨⟨_, rfl, rfl, hb⟩⟩
def oP (p : List Int × OpV) : List DV := [dJ p.2.actor, dJ p.2.seq, dJ p.2.time, .ow 1 p.1.length p.2.deps.length ((p.1 ++ p.2.deps).map inD), dJ p.2.kind, dJ p.2.obj, dJ p.2.n, dJ p.2.undo, dJ p.2.atT, dJ p.2.atA, .sc (.string (bs p.2.key)), .sc (.string (bs p.2.text))]
theorem fz_opP (p : List Int × OpV) : (oD p.2).map some = (oP p).map fzD := by
 simp only [oP, oD, fzD, List.map_cons, List.map_nil, List.map_append]
 rw [List.drop_left' (by simp), List.take_of_length_le (by simp)]
theorem fz_opsP (l : List (List Int × OpV)) : Fz (l.map oP) ((l.map (·.2)).map oD) := by rw [List.map_map]; exact Fz.map _ _ _ fz_opP
theorem sl_opsP {l : List (List Int × OpV)} {L : List OpV} (h : l.map (·.2) = L) {n : Nat} (hn : n = L.length) : SlF (l.map oP) 0 n (L.map oD) := by
 subst h
 exact SlF.full (by simpa using hn) (fz_opsP l)
theorem flat_oP (l : List (List Int × OpV)) : flatEs (l.map oP) := fun e he d hd => by
 obtain ⟨o, _, rfl⟩ := List.mem_map.1 he
 simp only [oP, List.mem_cons, List.not_mem_nil, or_false] at hd
 rcases hd with rfl | rfl | rfl | rfl | rfl | rfl | rfl | rfl | rfl | rfl | rfl | rfl <;> first | rfl | simp [flatD, List.all_map]
abbrev opZ : SV := .agg [cI 0, cI 0, cI 0, .nil, cI 0, cI 0, cI 0, cI 0, cI 0, cI 0, cS (bs []), cS (bs [])]
abbrev vOr (n : Nat) (o : OpV) : SV := .agg [cI o.actor, cI o.seq, cI o.time, .os (.v 1) 1 9 n, cI o.kind, cI o.obj, cI o.n, cI o.undo, cI o.atT, cI o.atA, cS (bs o.key), cS (bs o.text)]
def RecP (l : List UInt8) (a : Nat) : SV → List Row → Prop := fun r Lo => ∃ (b : Nat) (n : List Int) (o : OpV), b ≤ l.length ∧
 match recG l a with
 | some (q, c) => o = q ∧ b = c ∧ n.length = 25 ∧ n.drop 9 = o.deps ∧ r = vOr (n.length - 9) o ∧ Lo = [rdR l b false, .own 1 (n.map inD)]
 | none => (r = opZ ∧ Lo = [rdR l b true]) ∨ (n.length = 25 ∧ r = vOr (n.length - 9) o ∧ Lo = [rdR l b true, .own 1 (n.map inD)])
theorem recG_bad {l : List UInt8} {a n b : Nat} (hg : get l a = some (n, b)) (h : ¬ (n + 4 ≤ l.length - b ∧ four (sumH 2166136261 ((l.drop b).take n)) = (l.drop (b + n)).take 4)) : recG l a = none := by simp only [recG, hg]; rw [if_neg h]
theorem recG_op {l : List UInt8} {a n b : Nat} (hg : get l a = some (n, b)) (h : n + 4 ≤ l.length - b ∧ four (sumH 2166136261 ((l.drop b).take n)) = (l.drop (b + n)).take 4) : recG l a = (opG ((l.drop b).take n)).map fun o => (o, b + n + 4) := by simp only [recG, hg]; rw [if_pos h]
theorem opG_none {b : List UInt8} (h : partsG b = none) : opG b = none := by rw [opG, h]
theorem SlF.from {α : Type} (l : List α) (f : α → List DV) {a n : Nat} (h : n = l.length - a) (ha : a ≤ l.length) (hf : ∀ a, (f a).map some = (f a).map fzD) : SlF (l.map f) a n ((l.drop a).map f) :=
 SlF.of ⟨by simp; omega, by rw [← List.map_drop, List.take_of_length_le (by simp; omega)]⟩ (fz_self _ _ hf)
theorem i_record (l : List UInt8) (a : Nat) (hl : l.length ≤ 2 ^ 30) (ha : a ≤ l.length) :
  CallM Try.prog id_impl_reader_record [.one (.ptr 0 0)] [rdR l a false] [] false (RecP l a) := by
 refine F_impl_reader_record ?_
 try (conv => whnf)
 cases hg : get l a with
 | none =>
  have hR : recG l a = none := by rw [recG, hg]
  refine Hand.mk [] ?_
  try (conv => whnf)
  refine CallW.n (i_numN hg (by omega) ha) ?_
  rintro _ _ ⟨b, rfl, rfl, hb⟩
  try (conv => whnf)
  refine Hand.mk [] ?_
  try (conv => whnf)
  refine CallW.n (i_textN (n := 0) (bad := true) (.inl rfl) hb (by omega) (by simp [MaxN])) ?_
  rintro _ _ ⟨rfl, rfl⟩
  try (conv => whnf)
  refine Hand.mk [] ?_
  try (conv => whnf)
  refine CallW.n (i_textN (n := 4) (bad := true) (.inl rfl) hb (by omega) (by simp [MaxN])) ?_
  rintro _ _ ⟨rfl, rfl⟩
  try (conv => whnf)
  repeat' (first
   | (refine SeqJ.thru ?_; conv => whnf)
   | (refine br_dec (fun _ => ?_) (fun _ => ?_) <;> first | (exfalso; omega) | contradiction | conv => whnf)
   | (refine br_not ?_; conv => whnf)
   | (refine br_bne (fun _ => ?_) (fun _ => ?_) <;> first | (exfalso; omega) | contradiction | conv => whnf)
   | (refine br_beq (fun _ => ?_) (fun _ => ?_) <;> first | (exfalso; omega) | contradiction | conv => whnf))
  refine Out.mk false [0, 1, 2, 3, 4] [] ?_
  try (conv => whnf)
  refine ⟨⟨b, [], ⟨0, 0, 0, [], 0, 0, 0, 0, 0, 0, [], []⟩, hb, ?_⟩⟩
  rw [hR]
  exact .inl ⟨rfl, rfl⟩
 | some r =>
  obtain ⟨n, b⟩ := r
  obtain ⟨g1, g2, g3, g4, g5⟩ := get_inv hg
  simp only [MaxN] at g4
  refine Hand.mk [] ?_
  try (conv => whnf)
  refine CallW.n (i_num hg (by omega)) ?_
  rintro _ _ ⟨rfl, rfl⟩
  try (conv => whnf)
  rcases Nat.lt_or_ge (l.length - b) n with hlm | hlm
  ·have hR : recG l a = none := recG_bad hg (by omega)
   refine Hand.mk [] ?_
   try (conv => whnf)
   refine CallW.n (i_textN (.inr hlm) g3 (by omega) (by simp only [MaxN]; omega)) ?_
   rintro _ _ ⟨rfl, rfl⟩
   try (conv => whnf)
   refine Hand.mk [] ?_
   try (conv => whnf)
   refine CallW.n (i_textN (n := 4) (bad := true) (.inl rfl) g3 (by omega) (by simp [MaxN])) ?_
   rintro _ _ ⟨rfl, rfl⟩
   try (conv => whnf)
   repeat' (first
    | (refine SeqJ.thru ?_; conv => whnf)
    | (refine br_dec (fun _ => ?_) (fun _ => ?_) <;> first | (exfalso; omega) | contradiction | conv => whnf)
    | (refine br_not ?_; conv => whnf)
    | (refine br_bne (fun _ => ?_) (fun _ => ?_) <;> first | (exfalso; omega) | contradiction | conv => whnf)
    | (refine br_beq (fun _ => ?_) (fun _ => ?_) <;> first | (exfalso; omega) | contradiction | conv => whnf))
   refine Out.mk false [0, 1, 2, 3, 4] [] ?_
   try (conv => whnf)
   refine ⟨⟨b, [], ⟨0, 0, 0, [], 0, 0, 0, 0, 0, 0, [], []⟩, g3, ?_⟩⟩
   rw [hR]
   exact .inl ⟨rfl, rfl⟩
  ·have c1 := i_text hlm g3 (by omega)
   obtain ⟨B, hB⟩ : ∃ B, B = (l.drop b).take n := ⟨_, rfl⟩
   rw [← hB] at c1
   have hBl : B.length = n := by rw [hB]; simp; omega
   refine Hand.mk [] ?_
   try (conv => whnf)
   refine CallW.n (c1) ?_
   rintro _ _ ⟨rfl, rfl⟩
   try (conv => whnf)
   rcases Nat.lt_or_ge (l.length - (b + n)) 4 with h4 | h4
   ·have hR : recG l a = none := recG_bad hg (by omega)
    refine Hand.mk [] ?_
    try (conv => whnf)
    refine CallW.n (i_textN (n := 4) (.inr h4) (by omega) (by omega) (by simp [MaxN])) ?_
    rintro _ _ ⟨rfl, rfl⟩
    try (conv => whnf)
    repeat' (first
     | (refine SeqJ.thru ?_; conv => whnf)
     | (refine br_dec (fun _ => ?_) (fun _ => ?_) <;> first | (exfalso; omega) | contradiction | conv => whnf)
     | (refine br_not ?_; conv => whnf)
     | (refine br_bne (fun _ => ?_) (fun _ => ?_) <;> first | (exfalso; omega) | contradiction | conv => whnf)
     | (refine br_beq (fun _ => ?_) (fun _ => ?_) <;> first | (exfalso; omega) | contradiction | conv => whnf))
    refine Out.mk false [0, 1, 2, 3, 4] [] ?_
    try (conv => whnf)
    refine ⟨⟨(b + n), [], ⟨0, 0, 0, [], 0, 0, 0, 0, 0, 0, [], []⟩, (by omega), ?_⟩⟩
    rw [hR]
    exact .inl ⟨rfl, rfl⟩
   ·have c2 := i_text (n := 4) h4 (by omega) (by omega)
    obtain ⟨C, hC⟩ : ∃ C, C = (l.drop (b + n)).take 4 := ⟨_, rfl⟩
    rw [← hC] at c2
    have hs := sumH_lt (h := 2166136261) (by omega) B
    refine Hand.mk [] ?_
    try (conv => whnf)
    refine CallW.n (c2) ?_
    rintro _ _ ⟨rfl, rfl⟩
    try (conv => whnf)
    repeat (refine SeqJ.thru ?_; conv => whnf)
    refine Hand.mk [] ?_
    try (conv => whnf)
    repeat (refine Pick.mk ?_ ?_ ?_; rotate_left; (focus ((refine SlF.self _ _ ?_ ?_; (first | rfl | omega | (simp; done) | (simp; omega)); (exact fun _ => rfl)))); conv => whnf)
    refine CallW.d (i_sum32 B (by omega)) ?_
    try (conv => whnf)
    refine Hand.mk [] ?_
    try (conv => whnf)
    refine CallW.d (i_append4_nil (sumH 2166136261 B) (by omega) (by omega)) ?_
    try (conv => whnf)
    repeat (refine Pick.mk ?_ ?_ ?_; rotate_left; (focus (first | exact bs_beq _ _ | (refine SlOf.full ?_; first | (simp; done) | (simp; omega)))); conv => whnf)
    by_cases he : four (sumH 2166136261 B) = C
    rotate_left
    ·have hR : recG l a = none := recG_bad hg (by rw [← hB, ← hC]; exact fun h => he h.2)
     try (conv => whnf)
     repeat' (first
      | (refine br_dec (fun _ => ?_) (fun _ => ?_) <;> first | (exfalso; omega) | contradiction | conv => whnf)
      | (refine br_not ?_; conv => whnf)
      | (refine br_bne (fun _ => ?_) (fun _ => ?_) <;> first | (exfalso; omega) | contradiction | conv => whnf)
      | (refine br_beq (fun _ => ?_) (fun _ => ?_) <;> first | (exfalso; omega) | contradiction | conv => whnf))
     refine Out.mk false [0, 1, 2, 3, 4] [] ?_
     try (conv => whnf)
     refine ⟨⟨(b + n + 4), [], ⟨0, 0, 0, [], 0, 0, 0, 0, 0, 0, [], []⟩, (by omega), ?_⟩⟩
     rw [hR]
     exact .inl ⟨rfl, rfl⟩
    ·have hR := recG_op hg (by rw [← hB, ← hC]; exact ⟨by omega, he⟩)
     rw [← hB] at hR
     try (conv => whnf)
     repeat' (first
      | (refine br_dec (fun _ => ?_) (fun _ => ?_) <;> first | (exfalso; omega) | contradiction | conv => whnf)
      | (refine br_not ?_; conv => whnf)
      | (refine br_bne (fun _ => ?_) (fun _ => ?_) <;> first | (exfalso; omega) | contradiction | conv => whnf)
      | (refine br_beq (fun _ => ?_) (fun _ => ?_) <;> first | (exfalso; omega) | contradiction | conv => whnf))
     refine SeqJ.join (fun _ : Unit => mk [(0, .one (.ptr 0 0)), (2, .one (.ptr 4096 0)), (4, vS (bs B)), (6, .one (.ptr 32816 0))] [(0, rdR l (b + n + 4) false), (4096, .box [cI 0, cI 0, cI 0, .nil, cI 0, cI 0, cI 0, cI 0, cI 0, cI 0, cS (bs []), cS (bs [])]), (32816, rdR B 0 false)]) (fun _ => True) ?_ ?_
     ·refine Pick.mk () trivial (LeX.of ?_)
      try (conv => whnf)
      repeat (refine Need.mk ?_ ?_; (focus (first | omega | (simp; done) | rfl)); conv => whnf)
      refine Need.mk (SlF.self B byD (by simp) (fun _ => rfl)) ?_
      try (conv => whnf)
      repeat (refine Need.mk ?_ ?_; (focus (first | omega | rfl)); conv => whnf)
      trivial
     ·rintro - -
      try (conv => whnf)
      refine Hand.mk [] ?_
      try (conv => whnf)
      refine CallW.n (i_runs B 0 (by omega) (by omega)) ?_
      rintro _ _ ⟨c, bad, xs, rfl, rfl, hc, hx⟩
      cases hr : getR B 0 with
      | none =>
       rw [hr] at hx
       dsimp only at hx
       subst hx
       have hR : recG l a = none := by rw [hR, opG_none (by rw [partsG, hr])]; rfl
       try (conv => whnf)
       refine Hand.mk [] ?_
       try (conv => whnf)
       refine CallW.n (i_textsB (by omega) hc) ?_
       rintro _ _ ⟨d, rfl, rfl, hd⟩
       try (conv => whnf)
       repeat' (first
        | (refine SeqJ.thru ?_; conv => whnf)
        | (refine br_dec (fun _ => ?_) (fun _ => ?_) <;> first | (exfalso; omega) | contradiction | conv => whnf)
        | (refine br_not ?_; conv => whnf)
        | (refine br_bne (fun _ => ?_) (fun _ => ?_) <;> first | (exfalso; omega) | contradiction | conv => whnf)
        | (refine br_beq (fun _ => ?_) (fun _ => ?_) <;> first | (exfalso; omega) | contradiction | conv => whnf))
       refine Out.mk false [0, 1, 2, 3, 4] [] ?_
       try (conv => whnf)
       refine ⟨⟨(b + n + 4), [], ⟨0, 0, 0, [], 0, 0, 0, 0, 0, 0, [], []⟩, (by omega), ?_⟩⟩
       rw [hR]
       exact .inl ⟨rfl, rfl⟩
      | some r =>
       obtain ⟨ys, c'⟩ := r
       rw [hr] at hx
       dsimp only at hx
       obtain ⟨rfl, rfl, rfl⟩ := hx
       try (conv => whnf)
       refine Hand.mk [] ?_
       try (conv => whnf)
       refine CallW.n (i_texts B c (by omega) hc) ?_
       rintro _ _ ⟨d, bad, ts, rfl, rfl, hd, ht⟩
       cases hT : getT B c with
       | none =>
        rw [hT] at ht
        dsimp only at ht
        subst ht
        have hR : recG l a = none := by rw [hR, opG_none (by simp only [partsG, hr, hT])]; rfl
        try (conv => whnf)
        repeat' (first
         | (refine SeqJ.thru ?_; conv => whnf)
         | (refine br_dec (fun _ => ?_) (fun _ => ?_) <;> first | (exfalso; omega) | contradiction | conv => whnf)
         | (refine br_not ?_; conv => whnf)
         | (refine br_bne (fun _ => ?_) (fun _ => ?_) <;> first | (exfalso; omega) | contradiction | conv => whnf)
         | (refine br_beq (fun _ => ?_) (fun _ => ?_) <;> first | (exfalso; omega) | contradiction | conv => whnf))
        refine Out.mk false [0, 1, 2, 3, 4] [] ?_
        try (conv => whnf)
        refine ⟨⟨(b + n + 4), [], ⟨0, 0, 0, [], 0, 0, 0, 0, 0, 0, [], []⟩, (by omega), ?_⟩⟩
        rw [hR]
        exact .inl ⟨rfl, rfl⟩
       | some r =>
        obtain ⟨us, d'⟩ := r
        rw [hT] at ht
        dsimp only at ht
        obtain ⟨rfl, rfl, rfl⟩ := ht
        by_cases hall : d = B.length ∧ xs.length = 25 ∧ ts.length = 2
        rotate_left
        ·have hR : recG l a = none := by rw [hR, opG_none (by simp only [partsG, hr, hT]; rw [if_neg hall])]; rfl
         have hR2 : ¬ (d = B.length ∧ xs.length = 25 ∧ ts.length = 2) → recG l a = none := fun _ => hR
         try (conv => whnf)
         repeat' (first
          | (refine Pick.mk ?_ ?_ ?_; rotate_left; (focus (assumption)); conv => whnf)
          | (refine SeqJ.thru ?_; conv => whnf)
          | (refine br_dec (fun _ => ?_) (fun _ => ?_) <;> first | (exfalso; omega) | contradiction | conv => whnf)
          | (refine br_not ?_; conv => whnf)
          | (refine br_bne (fun _ => ?_) (fun _ => ?_) <;> first | (exfalso; omega) | contradiction | conv => whnf)
          | (refine br_beq (fun _ => ?_) (fun _ => ?_) <;> first | (exfalso; omega) | contradiction | conv => whnf))
         all_goals
          refine Out.mk false [0, 1, 2, 3, 4] [] ?_
          try (conv => whnf)
          refine ⟨⟨(b + n + 4), [], ⟨0, 0, 0, [], 0, 0, 0, 0, 0, 0, [], []⟩, (by omega), ?_⟩⟩
          rw [hR]
          exact .inl ⟨rfl, rfl⟩
        ·obtain ⟨rfl, hn, hw⟩ := hall
         have h5 : inM (xs[5]'(by omega)) := (getR_inv hr).2.2.2.1 _ (List.getElem_mem _)
         obtain ⟨z, hz⟩ : ∃ z, zag (xs[5]'(by omega)).toNat = z := ⟨_, rfl⟩
         have ho : opOfs xs ts = ⟨xs[0]'(by omega), xs[1]'(by omega), xs[2]'(by omega), xs.drop 9, xs[3]'(by omega), xs[4]'(by omega), z, xs[6]'(by omega), xs[7]'(by omega), xs[8]'(by omega), ts[0]'(by omega), ts[1]'(by omega)⟩ := by
          subst hz
          simp only [opOfs, List.getD_eq_getElem?_getD]
          simp only [List.getElem?_eq_getElem (show 0 < xs.length by omega), List.getElem?_eq_getElem (show 1 < xs.length by omega), List.getElem?_eq_getElem (show 2 < xs.length by omega), List.getElem?_eq_getElem (show 3 < xs.length by omega), List.getElem?_eq_getElem (show 4 < xs.length by omega), List.getElem?_eq_getElem (show 5 < xs.length by omega), List.getElem?_eq_getElem (show 6 < xs.length by omega), List.getElem?_eq_getElem (show 7 < xs.length by omega), List.getElem?_eq_getElem (show 8 < xs.length by omega), List.getElem?_eq_getElem (show 0 < ts.length by omega), List.getElem?_eq_getElem (show 1 < ts.length by omega), Option.getD_some]
         have hP : partsG B = some (xs, ts) := by simp only [partsG, hr, hT]; rw [if_pos ⟨trivial, hn, hw⟩]
         have hts := getT_inv hT
         have ht0 := total_get (l := ts) (i := 0) (by omega)
         have ht1 := total_get (l := ts) (i := 1) (by omega)
         simp only [MaxB] at hts
         have cf := i_opFrom xs z (ts[0]'(by omega)) (ts[1]'(by omega)) hn h5 hz
         have co : CallD Try.prog id_impl_opOK [vO ⟨xs[0]'(by omega), xs[1]'(by omega), xs[2]'(by omega), xs.drop 9, xs[3]'(by omega), xs[4]'(by omega), z, xs[6]'(by omega), xs[7]'(by omega), xs[8]'(by omega), ts[0]'(by omega), ts[1]'(by omega)⟩] [] (vB (decide (OpOk (opOfs xs ts)))) [] := by
          rw [ho]
          exact i_opOK _ (by dsimp only; omega) (by dsimp only; omega)
         by_cases hok : OpOk (opOfs xs ts)
         ·have hR : recG l a = some (opOfs xs ts, b + n + 4) := by rw [hR, opG, hP]; dsimp only; rw [if_pos hok]; rfl
          try (conv => whnf)
          repeat' (first
           | (refine Need.mk ?_ ?_; (focus (omega)); conv => whnf)
           | (refine Pick.mk ?_ ?_ ?_; rotate_left; (focus (first | assumption | (with_reducible refine get_mapI _ _ _ ?_ ?_ <;> first | omega | (simp; omega)))); conv => whnf)
           | (refine SeqJ.thru ?_; conv => whnf)
           | (refine br_dec (fun _ => ?_) (fun _ => ?_) <;> first | (exfalso; omega) | contradiction | conv => whnf)
           | (refine br_not ?_; conv => whnf)
           | (refine br_bne (fun _ => ?_) (fun _ => ?_) <;> first | (exfalso; omega) | contradiction | conv => whnf)
           | (refine br_beq (fun _ => ?_) (fun _ => ?_) <;> first | (exfalso; omega) | contradiction | conv => whnf))
          refine Need.mk ?_ ?_
          ·refine Hand.mk [0] ?_
           try (conv => whnf)
           refine CallW.m (cf) ?_
           try (conv => whnf)
           repeat (refine SeqJ.thru ?_; conv => whnf)
           refine Hand.mk [] ?_
           try (conv => whnf)
           refine Pick.mk _ (SlF.from xs inD (by omega) (by omega) (fun _ => rfl)) ?_
           try (conv => whnf)
           refine CallW.d co ?_
           try (conv => whnf)
           repeat' (first
            | (refine br_dec (fun _ => ?_) (fun _ => ?_) <;> first | (exfalso; omega) | contradiction | conv => whnf)
            | (refine br_not ?_; conv => whnf)
            | (refine br_bne (fun _ => ?_) (fun _ => ?_) <;> first | (exfalso; omega) | contradiction | conv => whnf)
            | (refine br_beq (fun _ => ?_) (fun _ => ?_) <;> first | (exfalso; omega) | contradiction | conv => whnf))
           refine Out.mk false [0, 1, 2, 3, 4] [] ?_
           try (conv => whnf)
           refine ⟨⟨b + n + 4, xs, opOfs xs ts, by omega, ?_⟩⟩
           rw [hR]
           exact ⟨rfl, rfl, hn, rfl, by rw [ho], rfl⟩
          ·try (conv => whnf)
           repeat (refine Need.mk ?_ ?_; (focus (((conv => whnf); (repeat (first | (refine Need.mk (by first | rfl | omega | (simp; done)) ?_; conv => whnf) | (refine Pick.mk ?_ ?_ ?_; rotate_left; (focus (first | with_reducible exact xor_u8 _ _ | (with_reducible refine xor_i64 ?_ ?_; all_goals omega) | (with_reducible refine xor_u32 ?_ ?_; all_goals omega) | assumption | with_reducible exact set_byN _ _ _ _ | with_reducible exact set_byI _ _ _ _ | with_reducible exact set_inN _ _ _ _ | with_reducible exact set_inI _ _ _ _ | with_reducible exact set_stN _ _ _ _ | with_reducible exact set_tsN _ _ _ _ | with_reducible exact set_tsI _ _ _ _ | with_reducible exact set_boN _ _ _ _ | with_reducible exact set_boI _ _ _ _ | (with_reducible refine get_mapN _ _ _ ?_; first | omega | (simp; omega)) | (with_reducible refine get_mapI _ _ _ ?_ ?_ <;> first | omega | (simp; omega)) | exact bs_beq _ _ | exact bs_less _ _ | exact bs_leq _ _ | with_reducible exact bs_app _ _ | (refine bs_get _ _ ?_; omega) | (refine bs_int _ _ ?_ ?_ <;> omega) | with_reducible exact sl_map0 _ _ _ | with_reducible exact sl_mapN _ _ _ | with_reducible exact sl_map _ _ _ _ | exact bs_extract0 _ _ | exact bs_extractN _ _ | exact bs_extract _ _ _ | (refine bnd_id ?_; omega) | (refine bnd_sub ?_ ?_ <;> omega) | (refine bnd_add ?_; omega) | (refine bnd_subN ?_ ?_ <;> omega) | (refine bnd_int ?_ ?_ <;> omega) | ((show @Eq Nat (_ + Int.toNat _ * _) _); simp only [Int.toNat_natCast, Nat.zero_add, Nat.mul_one]; rfl) | ((show @Eq (List _) (List.set [_] _ _) _); simp only [List.set_cons_zero]; rfl) | exact List.length_map _ | exact size_bs _ | (simp only [List.length_map, List.length_append, List.length_cons, List.length_nil, List.length_replicate, Nat.zero_add]; rfl) | with_reducible exact List.nil_append _ | with_reducible exact map_app _ _ _ | exact map_snoc byD _ _ | exact map_snoc inD _ _ | exact map_snoc stD _ _ | exact map_snoc tsD _ _ | (simp only [chunks]; rfl) | (refine wid ?_ ?_ <;> omega) | exact wby _ | with_reducible exact wby32 _ | with_reducible exact wu32 _ | exact wby64 _ | exact shr8 _ | exact shr16 _ | exact shr24 _ | exact shr32 _ | (refine tmodn ?_; omega) | (refine wdiv ?_ ?_ ?_ <;> omega) | exact wbyte _ | exact natlit _ | exact rep_by _ | exact rep_in _ | exact rep_bo _ | exact rep_st _ | (refine pick_nat _ _ _ ?_; omega) | (refine pick_int _ _ _ ?_ ?_ <;> omega) | (refine SlOf.full ?_; first | (simp; done) | (simp; omega)) | (with_reducible refine SlOf.pre _ _ ?_; first | omega | (simp; omega)) | (refine SlF.self _ _ ?_ ?_; (first | rfl | omega | (simp; done) | (simp; omega)); (exact fun _ => rfl)) | (refine SlF.pre _ _ ?_ ?_; (first | omega | (simp; omega)); (exact fun _ => rfl)) | (refine SlF.same ?_ ?_; (first | rfl | omega | (simp; done) | (simp; omega)); (first | exact fz_self _ _ (fun _ => rfl) | exact fz_pl rfl | (refine Fz.append ?_ ?_ <;> first | exact fz_self _ _ (fun _ => rfl) | exact fz_pl rfl) | (refine Fz.append (Fz.append ?_ ?_) ?_ <;> first | exact fz_self _ _ (fun _ => rfl) | exact fz_pl rfl))) | (simp only [Int.toNat_natCast, Nat.zero_add, Nat.mul_one]; rfl) | ((show @Eq (Option CV) _ _); rfl) | ((fail_if_success (show @Eq (Option _) _ _)); rfl) | ((show @Eq (Option _) _ _); simp only [List.getElem?_cons_zero, List.getElem?_cons_succ]; done) | ((show @Eq (Option _) _ _); simp only [List.getElem?_cons_zero, List.getElem?_cons_succ]; rfl) | with_reducible rfl)); conv => whnf))); exact Done.mk trivial))); conv => whnf)
           refine Hand.mk [0] ?_
           try (conv => whnf)
           refine CallW.m (cf) ?_
           try (conv => whnf)
           repeat (refine SeqJ.thru ?_; conv => whnf)
           refine Hand.mk [] ?_
           try (conv => whnf)
           refine Pick.mk _ (SlF.from xs inD (by omega) (by omega) (fun _ => rfl)) ?_
           try (conv => whnf)
           refine CallW.d co ?_
           try (conv => whnf)
           repeat' (first
            | (refine br_dec (fun _ => ?_) (fun _ => ?_) <;> first | (exfalso; omega) | contradiction | conv => whnf)
            | (refine br_not ?_; conv => whnf)
            | (refine br_bne (fun _ => ?_) (fun _ => ?_) <;> first | (exfalso; omega) | contradiction | conv => whnf)
            | (refine br_beq (fun _ => ?_) (fun _ => ?_) <;> first | (exfalso; omega) | contradiction | conv => whnf))
           refine Out.mk false [0, 1, 2, 3, 4] [] ?_
           try (conv => whnf)
           refine ⟨⟨b + n + 4, xs, opOfs xs ts, by omega, ?_⟩⟩
           rw [hR]
           exact ⟨rfl, rfl, hn, rfl, by rw [ho], rfl⟩
         ·have hR : recG l a = none := by rw [hR, opG, hP]; dsimp only; rw [if_neg hok]; rfl
          try (conv => whnf)
          repeat' (first
           | (refine Need.mk ?_ ?_; (focus (omega)); conv => whnf)
           | (refine Pick.mk ?_ ?_ ?_; rotate_left; (focus (first | assumption | (with_reducible refine get_mapI _ _ _ ?_ ?_ <;> first | omega | (simp; omega)))); conv => whnf)
           | (refine SeqJ.thru ?_; conv => whnf)
           | (refine br_dec (fun _ => ?_) (fun _ => ?_) <;> first | (exfalso; omega) | contradiction | conv => whnf)
           | (refine br_not ?_; conv => whnf)
           | (refine br_bne (fun _ => ?_) (fun _ => ?_) <;> first | (exfalso; omega) | contradiction | conv => whnf)
           | (refine br_beq (fun _ => ?_) (fun _ => ?_) <;> first | (exfalso; omega) | contradiction | conv => whnf))
          refine Need.mk ?_ ?_
          ·refine Hand.mk [0] ?_
           try (conv => whnf)
           refine CallW.m (cf) ?_
           try (conv => whnf)
           repeat (refine SeqJ.thru ?_; conv => whnf)
           refine Hand.mk [] ?_
           try (conv => whnf)
           refine Pick.mk _ (SlF.from xs inD (by omega) (by omega) (fun _ => rfl)) ?_
           try (conv => whnf)
           refine CallW.d co ?_
           try (conv => whnf)
           repeat' (first
            | (refine br_dec (fun _ => ?_) (fun _ => ?_) <;> first | (exfalso; omega) | contradiction | conv => whnf)
            | (refine br_not ?_; conv => whnf)
            | (refine br_bne (fun _ => ?_) (fun _ => ?_) <;> first | (exfalso; omega) | contradiction | conv => whnf)
            | (refine br_beq (fun _ => ?_) (fun _ => ?_) <;> first | (exfalso; omega) | contradiction | conv => whnf))
           refine Out.mk false [0, 1, 2, 3, 4] [] ?_
           try (conv => whnf)
           refine ⟨⟨b + n + 4, xs, opOfs xs ts, by omega, ?_⟩⟩
           rw [hR]
           exact .inr ⟨hn, by rw [ho], rfl⟩
          ·try (conv => whnf)
           repeat (refine Need.mk ?_ ?_; (focus (((conv => whnf); (repeat (first | (refine Need.mk (by first | rfl | omega | (simp; done)) ?_; conv => whnf) | (refine Pick.mk ?_ ?_ ?_; rotate_left; (focus (first | with_reducible exact xor_u8 _ _ | (with_reducible refine xor_i64 ?_ ?_; all_goals omega) | (with_reducible refine xor_u32 ?_ ?_; all_goals omega) | assumption | with_reducible exact set_byN _ _ _ _ | with_reducible exact set_byI _ _ _ _ | with_reducible exact set_inN _ _ _ _ | with_reducible exact set_inI _ _ _ _ | with_reducible exact set_stN _ _ _ _ | with_reducible exact set_tsN _ _ _ _ | with_reducible exact set_tsI _ _ _ _ | with_reducible exact set_boN _ _ _ _ | with_reducible exact set_boI _ _ _ _ | (with_reducible refine get_mapN _ _ _ ?_; first | omega | (simp; omega)) | (with_reducible refine get_mapI _ _ _ ?_ ?_ <;> first | omega | (simp; omega)) | exact bs_beq _ _ | exact bs_less _ _ | exact bs_leq _ _ | with_reducible exact bs_app _ _ | (refine bs_get _ _ ?_; omega) | (refine bs_int _ _ ?_ ?_ <;> omega) | with_reducible exact sl_map0 _ _ _ | with_reducible exact sl_mapN _ _ _ | with_reducible exact sl_map _ _ _ _ | exact bs_extract0 _ _ | exact bs_extractN _ _ | exact bs_extract _ _ _ | (refine bnd_id ?_; omega) | (refine bnd_sub ?_ ?_ <;> omega) | (refine bnd_add ?_; omega) | (refine bnd_subN ?_ ?_ <;> omega) | (refine bnd_int ?_ ?_ <;> omega) | ((show @Eq Nat (_ + Int.toNat _ * _) _); simp only [Int.toNat_natCast, Nat.zero_add, Nat.mul_one]; rfl) | ((show @Eq (List _) (List.set [_] _ _) _); simp only [List.set_cons_zero]; rfl) | exact List.length_map _ | exact size_bs _ | (simp only [List.length_map, List.length_append, List.length_cons, List.length_nil, List.length_replicate, Nat.zero_add]; rfl) | with_reducible exact List.nil_append _ | with_reducible exact map_app _ _ _ | exact map_snoc byD _ _ | exact map_snoc inD _ _ | exact map_snoc stD _ _ | exact map_snoc tsD _ _ | (simp only [chunks]; rfl) | (refine wid ?_ ?_ <;> omega) | exact wby _ | with_reducible exact wby32 _ | with_reducible exact wu32 _ | exact wby64 _ | exact shr8 _ | exact shr16 _ | exact shr24 _ | exact shr32 _ | (refine tmodn ?_; omega) | (refine wdiv ?_ ?_ ?_ <;> omega) | exact wbyte _ | exact natlit _ | exact rep_by _ | exact rep_in _ | exact rep_bo _ | exact rep_st _ | (refine pick_nat _ _ _ ?_; omega) | (refine pick_int _ _ _ ?_ ?_ <;> omega) | (refine SlOf.full ?_; first | (simp; done) | (simp; omega)) | (with_reducible refine SlOf.pre _ _ ?_; first | omega | (simp; omega)) | (refine SlF.self _ _ ?_ ?_; (first | rfl | omega | (simp; done) | (simp; omega)); (exact fun _ => rfl)) | (refine SlF.pre _ _ ?_ ?_; (first | omega | (simp; omega)); (exact fun _ => rfl)) | (refine SlF.same ?_ ?_; (first | rfl | omega | (simp; done) | (simp; omega)); (first | exact fz_self _ _ (fun _ => rfl) | exact fz_pl rfl | (refine Fz.append ?_ ?_ <;> first | exact fz_self _ _ (fun _ => rfl) | exact fz_pl rfl) | (refine Fz.append (Fz.append ?_ ?_) ?_ <;> first | exact fz_self _ _ (fun _ => rfl) | exact fz_pl rfl))) | (simp only [Int.toNat_natCast, Nat.zero_add, Nat.mul_one]; rfl) | ((show @Eq (Option CV) _ _); rfl) | ((fail_if_success (show @Eq (Option _) _ _)); rfl) | ((show @Eq (Option _) _ _); simp only [List.getElem?_cons_zero, List.getElem?_cons_succ]; done) | ((show @Eq (Option _) _ _); simp only [List.getElem?_cons_zero, List.getElem?_cons_succ]; rfl) | with_reducible rfl)); conv => whnf))); exact Done.mk trivial))); conv => whnf)
           refine Hand.mk [0] ?_
           try (conv => whnf)
           refine CallW.m (cf) ?_
           try (conv => whnf)
           repeat (refine SeqJ.thru ?_; conv => whnf)
           refine Hand.mk [] ?_
           try (conv => whnf)
           refine Pick.mk _ (SlF.from xs inD (by omega) (by omega) (fun _ => rfl)) ?_
           try (conv => whnf)
           refine CallW.d co ?_
           try (conv => whnf)
           repeat' (first
            | (refine br_dec (fun _ => ?_) (fun _ => ?_) <;> first | (exfalso; omega) | contradiction | conv => whnf)
            | (refine br_not ?_; conv => whnf)
            | (refine br_bne (fun _ => ?_) (fun _ => ?_) <;> first | (exfalso; omega) | contradiction | conv => whnf)
            | (refine br_beq (fun _ => ?_) (fun _ => ?_) <;> first | (exfalso; omega) | contradiction | conv => whnf))
           refine Out.mk false [0, 1, 2, 3, 4] [] ?_
           try (conv => whnf)
           refine ⟨⟨b + n + 4, xs, opOfs xs ts, by omega, ?_⟩⟩
           rw [hR]
           exact .inr ⟨hn, by rw [ho], rfl⟩
def rrC (l : List UInt8) : Int := if l.length > 1048576 then 2 else 0
noncomputable def rrL (l : List UInt8) : List OpV := if l.length > 1048576 then [] else (recsG l 0).1
noncomputable def rrN (l : List UInt8) : Nat := if l.length > 1048576 then 0 else (recsG l 0).2
abbrev goodP (p : List Int × OpV) : Prop := p.1.length = 9 ∧ p.2.deps.length = 16
def RrP (l : List UInt8) : SV → List Row → Prop := fun r Lo => ∃ ps : List (List Int × OpV), ps.map (·.2) = rrL l ∧ (∀ p ∈ ps, goodP p) ∧
 r = .tup [(false, [.os (.v 0) 12 0 ps.length]), (false, [cI (rrN l)]), (false, [cI (rrC l)])] ∧ Lo = [.own 12 (ps.map oP)]
theorem snoc_oP {out : List (List Int × OpV)} {n : List Int} {o : OpV} (hn : n.length = 25) (hd : n.drop 9 = o.deps) :
  out.map oP ++ [[dJ o.actor, dJ o.seq, dJ o.time, .ow 1 9 (n.length - 9) (n.map inD), dJ o.kind, dJ o.obj, dJ o.n, dJ o.undo, dJ o.atT, dJ o.atA, .sc (.string (bs o.key)), .sc (.string (bs o.text))]] = (out ++ [(n.take 9, o)]).map oP := by
 have h1 : (n.take 9).length = 9 := by simp; omega
 have h2 : o.deps.length = n.length - 9 := by rw [← hd]; simp
 have h3 : n.take 9 ++ o.deps = n := by rw [← hd, List.take_append_drop]
 simp only [List.map_append, List.map_cons, List.map_nil, oP, h1, h2, h3]
theorem i_ReadRecords (l : List UInt8) (hl : l.length ≤ 2 ^ 47) : CallM Try.prog id_impl_ReadRecords [vY l] [] [] true (RrP l) := by
 refine F_impl_ReadRecords ?_
 try (conv => whnf)
 repeat' (first
  | (refine Pick.mk ?_ ?_ ?_; rotate_left; (focus (exact List.length_map _)); conv => whnf)
  | (refine SeqJ.thru ?_; conv => whnf)
  | (refine br_dec (fun _ => ?_) (fun _ => ?_) <;> first | (exfalso; omega) | contradiction | conv => whnf)
  | (refine br_not ?_; conv => whnf)
  | (refine br_bne (fun _ => ?_) (fun _ => ?_) <;> first | (exfalso; omega) | contradiction | conv => whnf)
  | (refine br_beq (fun _ => ?_) (fun _ => ?_) <;> first | (exfalso; omega) | contradiction | conv => whnf))
 ·refine Out.mk false [0, 1, 2, 3, 4] [(0, 12)] ?_
  try (conv => whnf)
  repeat (refine Need.mk ?_ ?_; (focus ((first | exact flat_by _ | exact flat_in _ | exact flat_st _ | exact flat_ts _ | exact flat_bo _ | exact flat_cl rfl))); conv => whnf)
  exact ⟨⟨[], by rw [rrL, if_pos (by omega)]; rfl, by simp, by rw [rrN, rrC, if_pos (by omega), if_pos (by omega)]; rfl, rfl⟩⟩
 ·refine LoopE.mk (fun (x : List (List Int × OpV) × Nat) => mk [(5, .one (.os (.v 5000) 12 0 x.1.length)), (6, .one (.ptr 20512 0)), (7, vI .i64 x.2)] [(20512, rdR l x.2 false), (5000, .own 12 (x.1.map oP))])
   (fun x => (x.2 ≤ l.length ∧ x.1.length ≤ x.2) ∧ (∀ p ∈ x.1, goodP p) ∧ recsG l 0 = (x.1.map (·.2) ++ (recsG l x.2).1, (recsG l x.2).2)) (fun x => l.length - x.2) ([], 0) ⟨by simp, by simp, by simp⟩ (LeX.of ?_) ?_
  ·try (conv => whnf)
   repeat (refine Need.mk ?_ ?_; (focus (first | omega | (simp; done) | rfl)); conv => whnf)
   trivial
  ·rintro ⟨out, at_⟩ ⟨⟨h1, h0⟩, h2, h3⟩
   dsimp only at h0 h1 h2 h3 ⊢
   try (conv => whnf)
   refine Hand.mk [] ?_
   try (conv => whnf)
   refine CallW.n (i_record l at_ (by omega) h1) ?_
   rintro _ _ ⟨b, n, o, hb, h⟩
   cases hr : recG l at_ with
   | none =>
    rw [hr] at h
    rw [recsG_none hr] at h3
    have hend : RrP l (.tup [(false, [.os (.v 0) 12 0 out.length]), (false, [cI at_]), (false, [cI 0])]) [.own 12 (out.map oP)] := ⟨out, by rw [rrL, if_neg (by omega), h3]; simp, h2, by rw [rrN, rrC, if_neg (by omega), if_neg (by omega), h3], rfl⟩
    rcases h with ⟨rfl, rfl⟩ | ⟨hn, rfl, rfl⟩
    ·try (conv => whnf)
     repeat' (first
      | (refine SeqJ.thru ?_; conv => whnf)
      | (refine br_dec (fun _ => ?_) (fun _ => ?_) <;> first | (exfalso; omega) | contradiction | conv => whnf)
      | (refine br_not ?_; conv => whnf)
      | (refine br_bne (fun _ => ?_) (fun _ => ?_) <;> first | (exfalso; omega) | contradiction | conv => whnf)
      | (refine br_beq (fun _ => ?_) (fun _ => ?_) <;> first | (exfalso; omega) | contradiction | conv => whnf))
     refine Out.mk false [0, 1, 2, 3, 4] [] ?_
     try (conv => whnf)
     repeat (refine Need.mk ?_ ?_; (focus (exact flat_oP _)); conv => whnf)
     exact ⟨hend⟩
    ·try (conv => whnf)
     repeat' (first
      | (refine SeqJ.thru ?_; conv => whnf)
      | (refine br_dec (fun _ => ?_) (fun _ => ?_) <;> first | (exfalso; omega) | contradiction | conv => whnf)
      | (refine br_not ?_; conv => whnf)
      | (refine br_bne (fun _ => ?_) (fun _ => ?_) <;> first | (exfalso; omega) | contradiction | conv => whnf)
      | (refine br_beq (fun _ => ?_) (fun _ => ?_) <;> first | (exfalso; omega) | contradiction | conv => whnf))
     refine Out.mk false [0, 1, 2, 3, 4] [] ?_
     try (conv => whnf)
     repeat (refine Need.mk ?_ ?_; (focus (exact flat_oP _)); conv => whnf)
     exact ⟨hend⟩
   | some q =>
    obtain ⟨q, c⟩ := q
    rw [hr] at h
    obtain ⟨rfl, rfl, hn, hd, rfl, rfl⟩ := h
    have hlt := recG_lt hr
    try (conv => whnf)
    repeat' (first
     | (refine SeqJ.thru ?_; conv => whnf)
     | (refine br_dec (fun _ => ?_) (fun _ => ?_) <;> first | (exfalso; omega) | contradiction | conv => whnf)
     | (refine br_not ?_; conv => whnf)
     | (refine br_bne (fun _ => ?_) (fun _ => ?_) <;> first | (exfalso; omega) | contradiction | conv => whnf)
     | (refine br_beq (fun _ => ?_) (fun _ => ?_) <;> first | (exfalso; omega) | contradiction | conv => whnf))
    refine OwnQ.mk true ?_
    try (conv => whnf)
    repeat (first
     | (refine Need.mk ?_ ?_; (focus (first | (simp only [List.length_map, List.length_append, List.length_cons, List.length_nil, List.length_replicate]; omega) | (simp; omega) | (first | exact fz_self _ _ (fun _ => rfl) | exact fz_pl rfl | (refine Fz.append ?_ ?_ <;> first | exact fz_self _ _ (fun _ => rfl) | exact fz_pl rfl) | (refine Fz.append (Fz.append ?_ ?_) ?_ <;> first | exact fz_self _ _ (fun _ => rfl) | exact fz_pl rfl)))); conv => whnf)
     | (refine Pick.mk ?_ ?_ ?_; rotate_left; (focus (first | (simp only [List.length_map, List.length_append, List.length_cons, List.length_nil, List.length_replicate, Nat.zero_add]; rfl) | (simp only [chunks]; rfl) | (refine SlOf.full ?_; first | (simp; done) | (simp; omega)))); conv => whnf))
    refine Pick.mk (out ++ [(n.take 9, o)], b) ⟨⟨⟨hb, by simp; omega⟩, ?_, ?_⟩, by dsimp only; omega⟩ (LeX.of ?_)
    ·intro p hp
     rcases List.mem_append.1 hp with hp | hp
     ·exact h2 p hp
     ·simp only [List.mem_singleton] at hp
      subst hp
      exact ⟨by simp; omega, by rw [← hd]; simp; omega⟩
    ·dsimp only
     rw [h3, recsG_some hr]
     simp
    ·try (conv => whnf)
     repeat (refine Need.mk ?_ ?_; (focus (first | omega | (simp; done))); conv => whnf)
     refine Need.mk (snoc_oP hn hd) ?_
     try (conv => whnf)
     trivial
end Go.Proofs.Ytpdjehnlejjfmaa.D
/- What the laws do with texts: compared, marked. -/
namespace Go.Proofs.Ytpdjehnlejjfmaa.D
open Go.RowKit
set_option maxRecDepth 100000
set_option maxHeartbeats 4000000
set_option linter.unusedVariables false
set_option linter.unusedSimpArgs false

def digs (k : Nat) (acc : List UInt8) : List UInt8 := if k = 0 then acc else digs (k / 10) (u8 ((48 + k % 10 : Nat) : Int) :: acc)
termination_by k
decreasing_by omega
def markT (k : Int) : List UInt8 := 109 :: digs k.toNat []
theorem l_markText (k : Int) (h0 : 0 < k) (h1 : k ≤ 2 ^ 60) : CallD Try.prog id_laws_markText [vI .i64 k] [] (vS (bs (markT k))) [] := by
 refine F_laws_markText ?_
 obtain ⟨k, rfl⟩ : ∃ n : Nat, k = n := ⟨k.toNat, by omega⟩
 try (conv => whnf)
 repeat' (first
  | (refine SeqJ.thru ?_; conv => whnf)
  | (refine br_dec (fun _ => ?_) (fun _ => ?_) <;> first | (exfalso; omega) | contradiction | conv => whnf)
  | (refine br_not ?_; conv => whnf)
  | (refine br_bne (fun _ => ?_) (fun _ => ?_) <;> first | (exfalso; omega) | contradiction | conv => whnf)
  | (refine br_beq (fun _ => ?_) (fun _ => ?_) <;> first | (exfalso; omega) | contradiction | conv => whnf))
 refine LoopE.mk (fun (x : Nat × List UInt8) => mk [(0, vI .i64 x.1), (3, vS (bs x.2))] []) (fun x => x.1 + x.2.length ≤ k ∧ digs x.1 x.2 = digs k []) (fun x => x.1) (k, []) ⟨by simp, rfl⟩ (LeX.of ?_) ?_
 ·try (conv => whnf)
  repeat (refine Need.mk ?_ ?_; (focus (first | omega | (simp; done))); conv => whnf)
  trivial
 ·rintro ⟨n, out⟩ ⟨h2, h3⟩
  dsimp only at h2 h3 ⊢
  try (conv => whnf)
  repeat' (first
   | (refine Need.mk ?_ ?_; (focus (first | omega | (simp; omega))); conv => whnf)
   | (refine Pick.mk ?_ ?_ ?_; rotate_left; (focus (first | with_reducible exact bs_app _ _ | (simp only [chunks]; rfl) | (refine wid ?_ ?_ <;> omega) | (refine tmodn ?_; omega) | exact wbyte _)); conv => whnf)
   | (refine SeqJ.thru ?_; conv => whnf)
   | (refine br_dec (fun _ => ?_) (fun _ => ?_) <;> first | (exfalso; omega) | contradiction | conv => whnf)
   | (refine br_not ?_; conv => whnf)
   | (refine br_bne (fun _ => ?_) (fun _ => ?_) <;> first | (exfalso; omega) | contradiction | conv => whnf)
   | (refine br_beq (fun _ => ?_) (fun _ => ?_) <;> first | (exfalso; omega) | contradiction | conv => whnf))
  ·refine Pick.mk [u8 ((48 + n % 10 : Nat) : Int)] ⟨by simp, by simp⟩ ?_
   try (conv => whnf)
   repeat (first
    | (refine Need.mk ?_ ?_; (focus (first | omega | (simp; omega))); conv => whnf)
    | (refine Pick.mk ?_ ?_ ?_; rotate_left; (focus (first | with_reducible exact bs_app _ _ | (refine wdiv ?_ ?_ ?_ <;> omega))); conv => whnf))
   refine Pick.mk (n / 10, u8 ((48 + n % 10 : Nat) : Int) :: out) ⟨⟨by simp; omega, ?_⟩, by dsimp only; omega⟩ (LeX.of ?_)
   ·dsimp only
    rw [← h3]
    conv => rhs; rw [digs, if_neg (by omega)]
   ·try (conv => whnf)
    repeat (refine Need.mk ?_ ?_; (focus (first | omega | (simp; done))); conv => whnf)
    trivial
  ·refine Out.mk true [] [] ?_
   try (conv => whnf)
   have : n = 0 := by omega
   subst this
   rw [digs, if_pos rfl] at h3
   rw [markT, Int.toNat_natCast, ← h3]
   exact ⟨rfl, rfl⟩
def markTs (k : Int) (n : Nat) : List (List UInt8) := (List.range n).map fun (i : Nat) => markT (k + i)
@[simp] theorem markTs_length (k : Int) (n : Nat) : (markTs k n).length = n := by simp [markTs]
end Go.Proofs.Ytpdjehnlejjfmaa.D
/- States of several entries: in order, or not. -/
namespace Go.Proofs.Ytpdjehnlejjfmaa.D
open Go.RowKit
set_option maxRecDepth 100000
set_option maxHeartbeats 4000000
set_option linter.unusedVariables false
set_option linter.unusedSimpArgs false

structure EntV where
 t : Int
 a : Int
 x : List UInt8
def gd (s : List Int) (l : List EntV) (j : Nat) (h : j < l.length) : Prop :=
 stOk l[j].t l[j].a ∧ l[j].x.length ≤ 200 ∧ l[j].t ≤ s.getD l[j].a.toNat 0 ∧ (0 < j → stLt (l[j - 1]'(by omega)).t (l[j - 1]'(by omega)).a l[j].t l[j].a)
def StOk (s : List Int) (l : List EntV) : Prop := VecOk s ∧ l.length ≤ 256 ∧ ∀ j (h : j < l.length), gd s l j h
noncomputable instance (s : List Int) (l : List EntV) : Decidable (StOk s l) := Classical.propDecidable _
end Go.Proofs.Ytpdjehnlejjfmaa.D
/- What the laws do with entries: copied, compared, marked. -/
namespace Go.Proofs.Ytpdjehnlejjfmaa.D
open Go.RowKit
set_option maxRecDepth 100000
set_option maxHeartbeats 4000000
set_option linter.unusedVariables false
set_option linter.unusedSimpArgs false

def markEs (k : Int) (n : Nat) : List EntV := (List.range n).map fun (i : Nat) => ⟨k + 3 * i, k + 3 * i + 1, markT (k + 3 * i + 1 + 1)⟩
@[simp] theorem markEs_length (k : Int) (n : Nat) : (markEs k n).length = n := by simp [markEs]
theorem l_heldIntS (n : Nat) (k : Int) (ha : n ≤ 2 ^ 39) (h0 : 0 ≤ k) (h1 : k ≤ 2 ^ 60) :
  CallD Try.prog id_laws_heldIntS [vN (markIs k n), vI .i64 k] [] (vI .i64 (k + n)) [] := by
 refine F_laws_heldIntS ?_
 have hm : (markIs k n).length = n := by simp
 try (conv => whnf)
 refine LoopE.mk (fun i : Nat => mk [(0, vN (markIs k n)), (1, vI .i64 (k + i)), (5, vI .i64 i)] []) (fun i => i ≤ n) (fun i => n - i) 0 (by omega) (LeX.of ?_) ?_
 ·try (conv => whnf)
  repeat (refine Need.mk ?_ ?_; (focus (first | omega | (simp; done))); conv => whnf)
  trivial
 ·intro i hi
  try (conv => whnf)
  repeat' (first
   | (refine Pick.mk ?_ ?_ ?_; rotate_left; (focus (first | exact List.length_map _ | (refine wid ?_ ?_ <;> omega) | (refine pick_nat _ _ _ ?_; omega))); conv => whnf)
   | (refine SeqJ.thru ?_; conv => whnf)
   | (refine br_dec (fun _ => ?_) (fun _ => ?_) <;> first | (exfalso; omega) | contradiction | conv => whnf)
   | (refine br_not ?_; conv => whnf)
   | (refine br_bne (fun _ => ?_) (fun _ => ?_) <;> first | (exfalso; omega) | contradiction | conv => whnf)
   | (refine br_beq (fun _ => ?_) (fun _ => ?_) <;> first | (exfalso; omega) | contradiction | conv => whnf))
  ·refine Pick.mk (i + 1) (by constructor <;> first | omega | (simp only []; omega)) (LeX.of ?_)
   try (conv => whnf)
   repeat (refine Need.mk ?_ ?_; (focus (first | omega | (simp; done))); conv => whnf)
   trivial
  ·rename_i g1 g2
   exfalso
   rw [markIs_get k (by omega)] at g2
   simp at g2
  ·refine Out.mk true [] [] ?_
   try (conv => whnf)
   exact ⟨by congr; omega, rfl⟩
end Go.Proofs.Ytpdjehnlejjfmaa.D
/- The marks that a law makes in operations whose vectors are the ends of longer rows, and what they hold. -/
namespace Go.Proofs.Ytpdjehnlejjfmaa.D
open Go.RowKit
set_option maxRecDepth 100000
set_option maxHeartbeats 4000000
set_option linter.unusedVariables false
set_option linter.unusedSimpArgs false

theorem l_markIntSo (pre a : List Int) (n : Nat) (hn : a.length = n) (k : Int) (hp : pre.length ≤ 2 ^ 39) (ha : a.length ≤ 2 ^ 39) (h0 : 0 ≤ k) (h1 : k ≤ 2 ^ 60) :
  CallMD Try.prog id_laws_markIntS [.one (.os (.v 0) 1 pre.length a.length), vI .i64 k] [.own 1 ((pre ++ a).map inD)] [] (vI .i64 (k + n)) [.own 1 ((pre ++ markIs k n).map inD)] := by
 subst hn
 refine F_laws_markIntS ?_
 try (conv => whnf)
 refine LoopE.mk (fun i : Nat => mk [(0, .one (.os (.v 0) 1 pre.length a.length)), (1, vI .i64 (k + i)), (5, vI .i64 i)] [(0, .own 1 ((pre ++ over (markIs k a.length) a i).map inD))]) (fun i => i ≤ a.length) (fun i => a.length - i) 0 (by omega) (LeX.of ?_) ?_
 ·try (conv => whnf)
  repeat (refine Need.mk ?_ ?_; (focus (first | omega | rfl)); conv => whnf)
  trivial
 ·intro i hi
  try (conv => whnf)
  repeat' (first
   | (refine Need.mk ?_ ?_; (focus (omega)); conv => whnf)
   | (refine SeqJ.thru ?_; conv => whnf)
   | (refine br_dec (fun _ => ?_) (fun _ => ?_) <;> first | (exfalso; omega) | contradiction | conv => whnf)
   | (refine br_not ?_; conv => whnf)
   | (refine br_bne (fun _ => ?_) (fun _ => ?_) <;> first | (exfalso; omega) | contradiction | conv => whnf)
   | (refine br_beq (fun _ => ?_) (fun _ => ?_) <;> first | (exfalso; omega) | contradiction | conv => whnf))
  ·refine Pick.mk (inD (a[i]'(by omega))) (by rw [addN_eq, List.getElem?_map, show pre.length + (i : Int).toNat = pre.length + i by omega, List.getElem?_append_right (by omega), show pre.length + i - pre.length = i by omega, over_get (by simp) (by omega)]; simp) ?_
   try (conv => whnf)
   repeat (first
    | (refine Need.mk ?_ ?_; (focus ((simp only [List.length_map, List.length_append, List.length_cons, List.length_nil, List.length_replicate]; omega))); conv => whnf)
    | (refine Pick.mk ?_ ?_ ?_; rotate_left; (focus (first | (refine wid ?_ ?_ <;> omega) | (simp only [Int.toNat_natCast, Nat.zero_add, Nat.mul_one]; rfl))); conv => whnf))
   refine Pick.mk (i + 1) (by constructor <;> first | omega | (simp only []; omega)) (LeX.of ?_)
   try (conv => whnf)
   repeat (refine Need.mk ?_ ?_; (focus (omega)); conv => whnf)
   refine Need.mk (by rw [addN_eq, ← over_set (by simp) (by omega), markIs_get _ (by omega)]; show (List.map inD (pre ++ over (markIs k a.length) a i)).set (pre.length + i) (inD (k + i)) = _; rw [← List.map_set, List.set_append_right _ _ (by omega), show pre.length + i - pre.length = i by omega]) ?_
   try (conv => whnf)
   trivial
  ·refine Out.mk false [0, 1, 2, 3, 4] [] ?_
   try (conv => whnf)
   repeat (refine Need.mk ?_ ?_; (focus ((first | exact flat_by _ | exact flat_in _ | exact flat_st _ | exact flat_ts _ | exact flat_bo _ | exact flat_cl rfl))); conv => whnf)
   rw [over_end (by simp) (by omega)]
   exact ⟨by congr; omega, rfl⟩
def markO (q : Int) : OpV := ⟨q, q + 1, q + 1 + 1, markIs (q + 1 + 1 + 1) 16, q + 1 + 1 + 1 + ((16 : Nat) : Int), q + 1 + 1 + 1 + ((16 : Nat) : Int) + 1, q + 1 + 1 + 1 + ((16 : Nat) : Int) + 1 + 1, q + 1 + 1 + 1 + ((16 : Nat) : Int) + 1 + 1 + 1, q + 1 + 1 + 1 + ((16 : Nat) : Int) + 1 + 1 + 1 + 1, q + 1 + 1 + 1 + ((16 : Nat) : Int) + 1 + 1 + 1 + 1 + 1, markT (q + 1 + 1 + 1 + ((16 : Nat) : Int) + 1 + 1 + 1 + 1 + 1 + 1), markT (q + 1 + 1 + 1 + ((16 : Nat) : Int) + 1 + 1 + 1 + 1 + 1 + 1 + 1)⟩
def markL (k : Int) (n : Nat) : List OpV := (List.range n).map fun (i : Nat) => markO (k + 27 * i)
@[simp] theorem markL_length (k : Int) (n : Nat) : (markL k n).length = n := by simp [markL]
theorem markL_get (k : Int) {n i : Nat} (h : i < n) : (markL k n)[i]'(by simpa using h) = markO (k + 27 * i) := by simp [markL]
theorem markL_succ (k : Int) (i : Nat) : markL k (i + 1) = markL k i ++ [markO (k + 27 * i)] := by simp [markL, List.range_succ]
theorem take_set {α : Type} (l : List α) (i : Nat) (x : α) (h : i < l.length) : (l.set i x).take (i + 1) = l.take i ++ [x] := by
 rw [List.take_succ_eq_append_getElem (by simpa using h), List.getElem_set_self, List.take_set_of_le (Nat.le_refl _)]
theorem get_oP (m : List (List Int × OpV)) (i : Nat) (h : i < m.length) : (m.map oP)[addN 0 (i : Int).toNat]? = some (oP m[i]) := by
 rw [addN_eq, List.getElem?_map, show 0 + (i : Int).toNat = i by omega, List.getElem?_eq_getElem h]; rfl
theorem l_markOpP (l : List (List Int × OpV)) (k : Int) (hl : l.length ≤ 2 ^ 20) (hd : ∀ p ∈ l, goodP p) (h0 : 0 < k) (h1 : k ≤ 2 ^ 40) :
  CallM Try.prog id_laws_markOpS [.one (.os (.v 0) 12 0 l.length), vI .i64 k] [.own 12 (l.map oP)] [] true fun r Lo => ∃ m : List (List Int × OpV), m.map (·.2) = markL k l.length ∧ r = vI .i64 (k + 27 * l.length) ∧ Lo = [.own 12 (m.map oP)] := by
 refine F_laws_markOpS ?_
 try (conv => whnf)
 refine LoopE.mk (fun x : Nat × List (List Int × OpV) => mk [(0, .one (.os (.v 0) 12 0 l.length)), (1, vI .i64 (k + 27 * x.1)), (5, vI .i64 x.1)] [(0, .own 12 (x.2.map oP))])
  (fun x => x.1 ≤ l.length ∧ x.2.length = l.length ∧ (∀ p ∈ x.2, goodP p) ∧ (x.2.map (·.2)).take x.1 = markL k x.1) (fun x => l.length - x.1) (0, l) ⟨by omega, rfl, hd, rfl⟩ (LeX.of ?_) ?_
 ·try (conv => whnf)
  repeat (refine Need.mk ?_ ?_; (focus (first | omega | (simp; done))); conv => whnf)
  trivial
 ·rintro ⟨i, m⟩ ⟨hi, hm, hg, hk⟩
  simp only at hi hm hg hk ⊢
  by_cases hlt : i < l.length
  ·have hgo := hg (m[i]'(by omega)) (List.getElem_mem _)
   have g0 := get_oP m i (by omega)
   generalize ho : (m[i]'(by omega)) = o at hgo g0
   obtain ⟨pre, o⟩ := o
   obtain ⟨hp, hd16⟩ := hgo
   dsimp only at hp hd16
   have ha : addN 0 (i : Int).toNat < (m.map oP).length := by rw [addN_eq]; simp; omega
   try (conv => whnf)
   repeat' (first
    | (refine Need.mk ?_ ?_; (focus (first | omega | (simp only [List.length_map, List.length_append, List.length_cons, List.length_nil, List.length_replicate]; omega))); conv => whnf)
    | (refine Pick.mk ?_ ?_ ?_; rotate_left; (focus (first | exact List.set_set .. | (refine List.getElem?_set_self ?_; assumption) | assumption | (simp only [List.length_map, List.length_append, List.length_cons, List.length_nil, List.length_replicate, Nat.zero_add]; rfl) | (refine wid ?_ ?_ <;> omega))); conv => whnf)
    | (refine SeqJ.thru ?_; conv => whnf)
    | (refine br_dec (fun _ => ?_) (fun _ => ?_) <;> first | (exfalso; omega) | contradiction | conv => whnf)
    | (refine br_not ?_; conv => whnf)
    | (refine br_bne (fun _ => ?_) (fun _ => ?_) <;> first | (exfalso; omega) | contradiction | conv => whnf)
    | (refine br_beq (fun _ => ?_) (fun _ => ?_) <;> first | (exfalso; omega) | contradiction | conv => whnf))
   refine Hand.mk [0] ?_
   try (conv => whnf)
   repeat (first
    | (refine Need.mk ?_ ?_; (focus (omega)); conv => whnf)
    | (refine Pick.mk ?_ ?_ ?_; rotate_left; (focus ((refine List.getElem?_set_self ?_; assumption))); conv => whnf))
   refine CallW.m (l_markIntSo pre o.deps 16 hd16 (k + 27 * i + 1 + 1 + 1) (by omega) (by omega) (by omega) (by omega)) ?_
   try (conv => whnf)
   repeat (refine Pick.mk ?_ ?_ ?_; rotate_left; (focus ((refine List.getElem?_set_self ?_; assumption))); conv => whnf)
   refine Need.mk ⟨by simp [hd16], fz_self _ _ (fun _ => rfl), fun h => by exfalso; have := congrArg List.length h; simp [hp, hd16] at this⟩ ?_
   try (conv => whnf)
   repeat (first
    | (refine Need.mk ?_ ?_; (focus (first | omega | (simp only [List.length_map, List.length_append, List.length_cons, List.length_nil, List.length_replicate]; omega))); conv => whnf)
    | (refine Pick.mk ?_ ?_ ?_; rotate_left; (focus (first | exact List.set_set .. | (refine List.getElem?_set_self ?_; assumption) | (refine wid ?_ ?_ <;> omega))); conv => whnf))
   refine Hand.mk [] ?_
   try (conv => whnf)
   refine CallW.d (l_markText _ (by omega) (by omega)) ?_
   try (conv => whnf)
   repeat (first
    | (refine Need.mk ?_ ?_; (focus (first | omega | (simp only [List.length_map, List.length_append, List.length_cons, List.length_nil, List.length_replicate]; omega))); conv => whnf)
    | (refine Pick.mk ?_ ?_ ?_; rotate_left; (focus (first | exact List.set_set .. | (refine List.getElem?_set_self ?_; assumption) | (refine wid ?_ ?_ <;> omega))); conv => whnf))
   refine Hand.mk [] ?_
   try (conv => whnf)
   refine CallW.d (l_markText _ (by omega) (by omega)) ?_
   try (conv => whnf)
   repeat (first
    | (refine Need.mk ?_ ?_; (focus (first | omega | (simp only [List.length_map, List.length_append, List.length_cons, List.length_nil, List.length_replicate]; omega))); conv => whnf)
    | (refine Pick.mk ?_ ?_ ?_; rotate_left; (focus (first | exact List.set_set .. | (refine List.getElem?_set_self ?_; assumption) | (refine wid ?_ ?_ <;> omega))); conv => whnf))
   refine Pick.mk (i + 1, m.set i (pre, markO (k + 27 * i))) ⟨⟨by omega, by simpa using hm, ?_, ?_⟩, by simp only; omega⟩ (LeX.of ?_)
   ·intro p hp'
    rcases List.mem_or_eq_of_mem_set hp' with hx | rfl
    ·exact hg p hx
    ·exact ⟨hp, by simp [markO]⟩
   ·dsimp only
    rw [List.map_set, markL_succ, ← hk]
    exact take_set _ _ _ (by simp; omega)
   conv => whnf
   refine Need.mk ⟨rfl, rfl⟩ ?_
   conv => whnf
   refine Need.mk (by omega) ?_
   conv => whnf
   refine Need.mk (by omega) ?_
   conv => whnf
   refine Need.mk (by rw [addN_eq, show 0 + (i : Int).toNat = i by omega, List.map_set]; exact congrArg _ (by simp only [oP, markO, splice, markIs_length, List.take_succ_cons, List.take_zero, List.drop_succ_cons, List.drop_zero, List.cons_append, List.nil_append, List.length_cons, List.length_nil, List.take_nil, List.drop_nil, Nat.zero_add, Nat.reduceAdd, List.set_cons_succ, List.set_cons_zero, hd16])) ?_
   conv => whnf
   trivial
  ·try (conv => whnf)
   repeat' (first
    | (refine SeqJ.thru ?_; conv => whnf)
    | (refine br_dec (fun _ => ?_) (fun _ => ?_) <;> first | (exfalso; omega) | contradiction | conv => whnf)
    | (refine br_not ?_; conv => whnf)
    | (refine br_bne (fun _ => ?_) (fun _ => ?_) <;> first | (exfalso; omega) | contradiction | conv => whnf)
    | (refine br_beq (fun _ => ?_) (fun _ => ?_) <;> first | (exfalso; omega) | contradiction | conv => whnf))
   refine Out.mk false [0, 1, 2, 3, 4] [] ?_
   try (conv => whnf)
   repeat (refine Need.mk ?_ ?_; (focus (exact flat_oP _)); conv => whnf)
   have : i = l.length := by omega
   subst this
   refine ⟨m, ?_, rfl, rfl⟩
   rw [← hk, List.take_of_length_le (by simp; omega)]
theorem l_heldOpS (n : Nat) (k : Int) (hn : n ≤ 2 ^ 20) (h0 : 0 < k) (h1 : k ≤ 2 ^ 40) :
  CallD Try.prog id_laws_heldOpS [vL (markL k n), vI .i64 k] [] (vI .i64 (k + 27 * n)) [] := by
 refine F_laws_heldOpS ?_
 have hm : (markL k n).length = n := by simp
 try (conv => whnf)
 refine LoopE.mk (fun i : Nat => mk [(0, vL (markL k n)), (1, vI .i64 (k + 27 * i)), (5, vI .i64 i)] []) (fun i => i ≤ n) (fun i => n - i) 0 (by omega) (LeX.of ?_) ?_
 ·try (conv => whnf)
  repeat (refine Need.mk ?_ ?_; (focus (first | omega | (simp; done))); conv => whnf)
  trivial
 ·intro i hi
  by_cases hlt : i < n
  ·have f := markL_get k hlt
   have f0 : ((markL k n)[i]'(by omega)).actor = k + 27 * i := by rw [f]; rfl
   have f1 : ((markL k n)[i]'(by omega)).seq = k + 27 * i + 1 := by rw [f]; rfl
   have f2 : ((markL k n)[i]'(by omega)).time = k + 27 * i + 1 + 1 := by rw [f]; rfl
   have f3 : ((markL k n)[i]'(by omega)).deps = markIs (k + 27 * i + 1 + 1 + 1) 16 := by rw [f]; rfl
   have f4 : ((markL k n)[i]'(by omega)).kind = k + 27 * i + 1 + 1 + 1 + ((16 : Nat) : Int) := by rw [f]; rfl
   have f5 : ((markL k n)[i]'(by omega)).obj = k + 27 * i + 1 + 1 + 1 + ((16 : Nat) : Int) + 1 := by rw [f]; rfl
   have f6 : ((markL k n)[i]'(by omega)).n = k + 27 * i + 1 + 1 + 1 + ((16 : Nat) : Int) + 1 + 1 := by rw [f]; rfl
   have f7 : ((markL k n)[i]'(by omega)).undo = k + 27 * i + 1 + 1 + 1 + ((16 : Nat) : Int) + 1 + 1 + 1 := by rw [f]; rfl
   have f8 : ((markL k n)[i]'(by omega)).atT = k + 27 * i + 1 + 1 + 1 + ((16 : Nat) : Int) + 1 + 1 + 1 + 1 := by rw [f]; rfl
   have f9 : ((markL k n)[i]'(by omega)).atA = k + 27 * i + 1 + 1 + 1 + ((16 : Nat) : Int) + 1 + 1 + 1 + 1 + 1 := by rw [f]; rfl
   have f10 : ((markL k n)[i]'(by omega)).key = markT (k + 27 * i + 1 + 1 + 1 + ((16 : Nat) : Int) + 1 + 1 + 1 + 1 + 1 + 1) := by rw [f]; rfl
   have f11 : ((markL k n)[i]'(by omega)).text = markT (k + 27 * i + 1 + 1 + 1 + ((16 : Nat) : Int) + 1 + 1 + 1 + 1 + 1 + 1 + 1) := by rw [f]; rfl
   have c := l_heldIntS 16 (k + 27 * i + 1 + 1 + 1) (by omega) (by omega) (by omega)
   rw [← f3] at c
   clear f
   try (conv => whnf)
   repeat' (first
    | (refine Pick.mk ?_ ?_ ?_; rotate_left; (focus (first | exact List.length_map _ | (refine wid ?_ ?_ <;> omega) | (refine pick_nat _ _ _ ?_; omega))); conv => whnf)
    | (refine SeqJ.thru ?_; conv => whnf)
    | (refine br_dec (fun _ => ?_) (fun _ => ?_) <;> first | (exfalso; omega) | contradiction | conv => whnf)
    | (refine br_not ?_; conv => whnf)
    | (refine br_bne (fun _ => ?_) (fun _ => ?_) <;> first | (exfalso; omega) | contradiction | conv => whnf)
    | (refine br_beq (fun _ => ?_) (fun _ => ?_) <;> first | (exfalso; omega) | contradiction | conv => whnf))
   refine Hand.mk [] ?_
   try (conv => whnf)
   refine CallW.d (c) ?_
   try (conv => whnf)
   repeat (refine SeqJ.thru ?_; conv => whnf)
   try (conv => whnf)
   repeat' (first
    | (refine Pick.mk ?_ ?_ ?_; rotate_left; (focus (first | (refine wid ?_ ?_ <;> omega) | (refine pick_nat _ _ _ ?_; omega))); conv => whnf)
    | (refine SeqJ.thru ?_; conv => whnf)
    | (refine br_dec (fun _ => ?_) (fun _ => ?_) <;> first | (exfalso; omega) | contradiction | conv => whnf)
    | (refine br_not ?_; conv => whnf)
    | (refine br_bne (fun _ => ?_) (fun _ => ?_) <;> first | (exfalso; omega) | contradiction | conv => whnf)
    | (refine br_beq (fun _ => ?_) (fun _ => ?_) <;> first | (exfalso; omega) | contradiction | conv => whnf))
   refine Hand.mk [] ?_
   try (conv => whnf)
   refine CallW.d (l_markText _ (by omega) (by omega)) ?_
   try (conv => whnf)
   repeat (first
    | (refine Need.mk ?_ ?_; (focus (((conv => whnf); (repeat (first | (refine Need.mk (by first | rfl | omega | (simp; done)) ?_; conv => whnf) | (refine Pick.mk ?_ ?_ ?_; rotate_left; (focus (first | with_reducible exact xor_u8 _ _ | (with_reducible refine xor_i64 ?_ ?_; all_goals omega) | (with_reducible refine xor_u32 ?_ ?_; all_goals omega) | exact List.set_set .. | (refine List.getElem?_set_self ?_; assumption) | assumption | with_reducible exact set_byN _ _ _ _ | with_reducible exact set_byI _ _ _ _ | with_reducible exact set_inN _ _ _ _ | with_reducible exact set_inI _ _ _ _ | with_reducible exact set_stN _ _ _ _ | with_reducible exact set_tsN _ _ _ _ | with_reducible exact set_tsI _ _ _ _ | with_reducible exact set_boN _ _ _ _ | with_reducible exact set_boI _ _ _ _ | (with_reducible refine get_mapN _ _ _ ?_; first | omega | (simp; omega)) | (with_reducible refine get_mapI _ _ _ ?_ ?_ <;> first | omega | (simp; omega)) | exact bs_beq _ _ | exact bs_less _ _ | exact bs_leq _ _ | with_reducible exact bs_app _ _ | (refine bs_get _ _ ?_; omega) | (refine bs_int _ _ ?_ ?_ <;> omega) | with_reducible exact sl_map0 _ _ _ | with_reducible exact sl_mapN _ _ _ | with_reducible exact sl_map _ _ _ _ | exact bs_extract0 _ _ | exact bs_extractN _ _ | exact bs_extract _ _ _ | (refine bnd_id ?_; omega) | (refine bnd_sub ?_ ?_ <;> omega) | (refine bnd_add ?_; omega) | (refine bnd_subN ?_ ?_ <;> omega) | (refine bnd_int ?_ ?_ <;> omega) | ((show @Eq Nat (_ + Int.toNat _ * _) _); simp only [Int.toNat_natCast, Nat.zero_add, Nat.mul_one]; rfl) | ((show @Eq (List _) (List.set [_] _ _) _); simp only [List.set_cons_zero]; rfl) | exact List.length_map _ | exact size_bs _ | (simp only [List.length_map, List.length_append, List.length_cons, List.length_nil, List.length_replicate, Nat.zero_add]; rfl) | with_reducible exact List.nil_append _ | with_reducible exact map_app _ _ _ | exact map_snoc byD _ _ | exact map_snoc inD _ _ | exact map_snoc stD _ _ | exact map_snoc tsD _ _ | (simp only [chunks]; rfl) | (refine wid ?_ ?_ <;> omega) | exact wby _ | with_reducible exact wby32 _ | with_reducible exact wu32 _ | exact wby64 _ | exact shr8 _ | exact shr16 _ | exact shr24 _ | exact shr32 _ | (refine tmodn ?_; omega) | (refine wdiv ?_ ?_ ?_ <;> omega) | exact wbyte _ | exact natlit _ | exact rep_by _ | exact rep_in _ | exact rep_bo _ | exact rep_st _ | (refine pick_nat _ _ _ ?_; omega) | (refine pick_int _ _ _ ?_ ?_ <;> omega) | (refine SlOf.full ?_; first | (simp; done) | (simp; omega)) | (with_reducible refine SlOf.pre _ _ ?_; first | omega | (simp; omega)) | (refine SlF.self _ _ ?_ ?_; (first | rfl | omega | (simp; done) | (simp; omega)); (exact fun _ => rfl)) | (refine SlF.pre _ _ ?_ ?_; (first | omega | (simp; omega)); (exact fun _ => rfl)) | (refine SlF.same ?_ ?_; (first | rfl | omega | (simp; done) | (simp; omega)); (first | exact fz_self _ _ (fun _ => rfl) | exact fz_pl rfl | (refine Fz.append ?_ ?_ <;> first | exact fz_self _ _ (fun _ => rfl) | exact fz_pl rfl) | (refine Fz.append (Fz.append ?_ ?_) ?_ <;> first | exact fz_self _ _ (fun _ => rfl) | exact fz_pl rfl))) | (simp only [Int.toNat_natCast, Nat.zero_add, Nat.mul_one]; rfl) | ((show @Eq (Option CV) _ _); rfl) | ((fail_if_success (show @Eq (Option _) _ _)); rfl) | ((show @Eq (Option _) _ _); simp only [List.getElem?_cons_zero, List.getElem?_cons_succ]; done) | ((show @Eq (Option _) _ _); simp only [List.getElem?_cons_zero, List.getElem?_cons_succ]; rfl) | with_reducible rfl)); conv => whnf))); exact Done.mk trivial))); conv => whnf)
    | (refine Pick.mk ?_ ?_ ?_; rotate_left; (focus (exact bs_beq _ _)); conv => whnf))
   try (conv => whnf)
   repeat' (first
    | (refine Pick.mk ?_ ?_ ?_; rotate_left; (focus (first | (refine wid ?_ ?_ <;> omega) | (refine pick_nat _ _ _ ?_; omega))); conv => whnf)
    | (refine SeqJ.thru ?_; conv => whnf)
    | (refine br_dec (fun _ => ?_) (fun _ => ?_) <;> first | (exfalso; omega) | contradiction | conv => whnf)
    | (refine br_not ?_; conv => whnf)
    | (refine br_bne (fun _ => ?_) (fun _ => ?_) <;> first | (exfalso; omega) | contradiction | conv => whnf)
    | (refine br_beq (fun _ => ?_) (fun _ => ?_) <;> first | (exfalso; omega) | contradiction | conv => whnf))
   refine Hand.mk [] ?_
   try (conv => whnf)
   refine CallW.d (l_markText _ (by omega) (by omega)) ?_
   try (conv => whnf)
   repeat (first
    | (refine Need.mk ?_ ?_; (focus (((conv => whnf); (repeat (first | (refine Need.mk (by first | rfl | omega | (simp; done)) ?_; conv => whnf) | (refine Pick.mk ?_ ?_ ?_; rotate_left; (focus (first | with_reducible exact xor_u8 _ _ | (with_reducible refine xor_i64 ?_ ?_; all_goals omega) | (with_reducible refine xor_u32 ?_ ?_; all_goals omega) | exact List.set_set .. | (refine List.getElem?_set_self ?_; assumption) | assumption | with_reducible exact set_byN _ _ _ _ | with_reducible exact set_byI _ _ _ _ | with_reducible exact set_inN _ _ _ _ | with_reducible exact set_inI _ _ _ _ | with_reducible exact set_stN _ _ _ _ | with_reducible exact set_tsN _ _ _ _ | with_reducible exact set_tsI _ _ _ _ | with_reducible exact set_boN _ _ _ _ | with_reducible exact set_boI _ _ _ _ | (with_reducible refine get_mapN _ _ _ ?_; first | omega | (simp; omega)) | (with_reducible refine get_mapI _ _ _ ?_ ?_ <;> first | omega | (simp; omega)) | exact bs_beq _ _ | exact bs_less _ _ | exact bs_leq _ _ | with_reducible exact bs_app _ _ | (refine bs_get _ _ ?_; omega) | (refine bs_int _ _ ?_ ?_ <;> omega) | with_reducible exact sl_map0 _ _ _ | with_reducible exact sl_mapN _ _ _ | with_reducible exact sl_map _ _ _ _ | exact bs_extract0 _ _ | exact bs_extractN _ _ | exact bs_extract _ _ _ | (refine bnd_id ?_; omega) | (refine bnd_sub ?_ ?_ <;> omega) | (refine bnd_add ?_; omega) | (refine bnd_subN ?_ ?_ <;> omega) | (refine bnd_int ?_ ?_ <;> omega) | ((show @Eq Nat (_ + Int.toNat _ * _) _); simp only [Int.toNat_natCast, Nat.zero_add, Nat.mul_one]; rfl) | ((show @Eq (List _) (List.set [_] _ _) _); simp only [List.set_cons_zero]; rfl) | exact List.length_map _ | exact size_bs _ | (simp only [List.length_map, List.length_append, List.length_cons, List.length_nil, List.length_replicate, Nat.zero_add]; rfl) | with_reducible exact List.nil_append _ | with_reducible exact map_app _ _ _ | exact map_snoc byD _ _ | exact map_snoc inD _ _ | exact map_snoc stD _ _ | exact map_snoc tsD _ _ | (simp only [chunks]; rfl) | (refine wid ?_ ?_ <;> omega) | exact wby _ | with_reducible exact wby32 _ | with_reducible exact wu32 _ | exact wby64 _ | exact shr8 _ | exact shr16 _ | exact shr24 _ | exact shr32 _ | (refine tmodn ?_; omega) | (refine wdiv ?_ ?_ ?_ <;> omega) | exact wbyte _ | exact natlit _ | exact rep_by _ | exact rep_in _ | exact rep_bo _ | exact rep_st _ | (refine pick_nat _ _ _ ?_; omega) | (refine pick_int _ _ _ ?_ ?_ <;> omega) | (refine SlOf.full ?_; first | (simp; done) | (simp; omega)) | (with_reducible refine SlOf.pre _ _ ?_; first | omega | (simp; omega)) | (refine SlF.self _ _ ?_ ?_; (first | rfl | omega | (simp; done) | (simp; omega)); (exact fun _ => rfl)) | (refine SlF.pre _ _ ?_ ?_; (first | omega | (simp; omega)); (exact fun _ => rfl)) | (refine SlF.same ?_ ?_; (first | rfl | omega | (simp; done) | (simp; omega)); (first | exact fz_self _ _ (fun _ => rfl) | exact fz_pl rfl | (refine Fz.append ?_ ?_ <;> first | exact fz_self _ _ (fun _ => rfl) | exact fz_pl rfl) | (refine Fz.append (Fz.append ?_ ?_) ?_ <;> first | exact fz_self _ _ (fun _ => rfl) | exact fz_pl rfl))) | (simp only [Int.toNat_natCast, Nat.zero_add, Nat.mul_one]; rfl) | ((show @Eq (Option CV) _ _); rfl) | ((fail_if_success (show @Eq (Option _) _ _)); rfl) | ((show @Eq (Option _) _ _); simp only [List.getElem?_cons_zero, List.getElem?_cons_succ]; done) | ((show @Eq (Option _) _ _); simp only [List.getElem?_cons_zero, List.getElem?_cons_succ]; rfl) | with_reducible rfl)); conv => whnf))); exact Done.mk trivial))); conv => whnf)
    | (refine Pick.mk ?_ ?_ ?_; rotate_left; (focus (exact bs_beq _ _)); conv => whnf))
   try (conv => whnf)
   repeat' (first
    | (refine Pick.mk ?_ ?_ ?_; rotate_left; (focus ((refine wid ?_ ?_ <;> omega))); conv => whnf)
    | (refine br_dec (fun _ => ?_) (fun _ => ?_) <;> first | (exfalso; omega) | contradiction | conv => whnf)
    | (refine br_not ?_; conv => whnf)
    | (refine br_bne (fun _ => ?_) (fun _ => ?_) <;> first | (exfalso; omega) | contradiction | conv => whnf)
    | (refine br_beq (fun _ => ?_) (fun _ => ?_) <;> first | (exfalso; omega) | contradiction | conv => whnf))
   refine Pick.mk (i + 1) (by constructor <;> first | omega | (simp only []; omega)) (LeX.of ?_)
   try (conv => whnf)
   repeat (refine Need.mk ?_ ?_; (focus (first | omega | (simp; done))); conv => whnf)
   trivial
  ·try (conv => whnf)
   repeat' (first
    | (refine Pick.mk ?_ ?_ ?_; rotate_left; (focus (exact List.length_map _)); conv => whnf)
    | (refine SeqJ.thru ?_; conv => whnf)
    | (refine br_dec (fun _ => ?_) (fun _ => ?_) <;> first | (exfalso; omega) | contradiction | conv => whnf)
    | (refine br_not ?_; conv => whnf)
    | (refine br_bne (fun _ => ?_) (fun _ => ?_) <;> first | (exfalso; omega) | contradiction | conv => whnf)
    | (refine br_beq (fun _ => ?_) (fun _ => ?_) <;> first | (exfalso; omega) | contradiction | conv => whnf))
   refine Out.mk true [] [] ?_
   try (conv => whnf)
   exact ⟨vI_ext (by omega), rfl⟩
end Go.Proofs.Ytpdjehnlejjfmaa.D
/- Operations read out of bytes, by the reference. -/
namespace Go.Proofs.Ytpdjehnlejjfmaa.D
open Go.RowKit
set_option maxRecDepth 100000
set_option maxHeartbeats 4000000
set_option linter.unusedVariables false
set_option linter.unusedSimpArgs false

def opH (b : List UInt8) : Option OpV := match getR0 b 0 with
 | none => none
 |some (n, c) => match getT b c with
  | none => none
  | some (w, d) => if (d = b.length ∧ n.length = 25 ∧ w.length = 2) ∧ OpOk (opOfs n w) ∧ opB (opOfs n w) = b then some (opOfs n w) else none
theorem opB_of {n : List Int} {w : List (List UInt8)} (hn : n.length = 25) (hw : w.length = 2) (h5 : ∀ x ∈ n, inM x) : opB (opOfs n w) = putR n ++ putT w := by
 obtain ⟨n0, n1, n2, n3, n4, n5, n6, n7, n8, d, rfl, hd⟩ := nine hn
 obtain ⟨s, t, rfl⟩ := two hw
 have h := h5 n5 (by simp)
 have e : (zig (zag n5.toNat) : Int) = n5 := by rw [zig_zag]; unfold inM at h; omega
 simp only [opB, nums, opOfs, List.getD_cons_zero, List.getD_cons_succ, List.drop_succ_cons, List.drop_zero, e, List.cons_append, List.nil_append]
theorem opH_eq (b : List UInt8) : opH b = opG b := by
 unfold opH opG partsG getR
 cases h : getR0 b 0 with
 | none => rfl
 | some r =>
  obtain ⟨n, c⟩ := r
  obtain ⟨h1, h2, h3, h4⟩ := getR0_inv h
  dsimp only
  by_cases hp : putR n = (b.drop 0).take (c - 0)
  ·rw [if_pos hp]
   dsimp only
   cases ht : getT b c with
   | none => rfl
   | some r =>
    obtain ⟨w, d⟩ := r
    obtain ⟨t1, t2, t3, t4, t5⟩ := getT_inv ht
    dsimp only
    by_cases hc : d = b.length ∧ n.length = 25 ∧ w.length = 2
    ·rw [if_pos hc]
     dsimp only
     have e : opB (opOfs n w) = b := by
      rw [opB_of hc.2.1 hc.2.2 h3]
      simp only [List.drop_zero, Nat.sub_zero] at hp
      rw [hp]
      conv => rhs; rw [t3]
      rw [hc.1, List.drop_length, List.append_nil]
     by_cases ho : OpOk (opOfs n w)
     ·rw [if_pos ⟨hc, ho, e⟩, if_pos ho]
     ·rw [if_neg (fun g => ho g.2.1), if_neg ho]
    ·rw [if_neg hc, if_neg (fun g => hc g.1)]
  ·rw [if_neg hp]
   dsimp only
   cases ht : getT b c with
   | none => rfl
   | some r =>
    obtain ⟨w, d⟩ := r
    dsimp only
    rw [if_neg]
    rintro ⟨⟨g1, g2, g3⟩, -, g4⟩
    apply hp
    rw [opB_of g2 g3 h3] at g4
    have hg := getR0_put h3 h4 [] (putT w)
    simp only [List.nil_append, List.length_nil, Nat.zero_add] at hg
    rw [g4, h] at hg
    simp only [Option.some.injEq, Prod.mk.injEq] at hg
    rw [← g4, List.drop_zero, Nat.sub_zero, hg.2, List.take_left']
    rfl
theorem s_textsB {l : List UInt8} {a : Nat} (hl : l.length ≤ 2 ^ 40) (ha : a ≤ l.length) :
  CallM Try.prog id_spec_l01Reader_texts [.one (.ptr 0 0)] [rdR l a true] [] false fun r Lo => ∃ b : Nat, Lo = [rdR l b true, .own 1 []] ∧ r = .one (.os (.v 1) 1 0 0) ∧ b ≤ l.length := by
 refine F_spec_l01Reader_texts ?_
 try (conv => whnf)
 repeat (refine Pick.mk ?_ ?_ ?_; rotate_left; (focus ((simp only [chunks]; rfl))); conv => whnf)
 refine Hand.mk [] ?_
 try (conv => whnf)
 refine CallW.n (s_countB hl ha) ?_
 rintro _ _ ⟨b, rfl, rfl, hb⟩
 try (conv => whnf)
 refine LoopE.mk (fun (_ : Nat) => mk [(0, .one (.ptr 0 0)), (3, .one (.os (.v 8192) 1 0 0)), (6, vI .i64 0)] [(0, rdR l b true), (8192, .own 1 [])]) (fun _ => True) (fun x => x) 0 trivial (LeX.of ?_) ?_
 ·try (conv => whnf)
  repeat (refine Need.mk ?_ ?_; (focus (first | omega | (simp; done))); conv => whnf)
  trivial
 ·rintro _ -
  try (conv => whnf)
  repeat' (first
   | (refine SeqJ.thru ?_; conv => whnf)
   | (refine br_dec (fun _ => ?_) (fun _ => ?_) <;> first | (exfalso; omega) | contradiction | conv => whnf)
   | (refine br_not ?_; conv => whnf)
   | (refine br_bne (fun _ => ?_) (fun _ => ?_) <;> first | (exfalso; omega) | contradiction | conv => whnf)
   | (refine br_beq (fun _ => ?_) (fun _ => ?_) <;> first | (exfalso; omega) | contradiction | conv => whnf))
  refine Out.mk false [0, 1, 2, 3, 4] [] ?_
  try (conv => whnf)
  exact ⟨b, rfl, rfl, hb⟩
theorem opH_none1 {b : List UInt8} (h : getR0 b 0 = none) : opG b = none := by rw [← opH_eq, opH, h]
theorem opH_none2 {b : List UInt8} {n : List Int} {c : Nat} (h : getR0 b 0 = some (n, c)) (h2 : getT b c = none) : opG b = none := by rw [← opH_eq]; simp only [opH, h, h2]
theorem opH_if {b : List UInt8} {n : List Int} {c d : Nat} {w : List (List UInt8)} (h : getR0 b 0 = some (n, c)) (h2 : getT b c = some (w, d)) :
  opG b = if (d = b.length ∧ n.length = 25 ∧ w.length = 2) ∧ OpOk (opOfs n w) ∧ opB (opOfs n w) = b then some (opOfs n w) else none := by rw [← opH_eq]; simp only [opH, h, h2]
def OpP (b : List UInt8) : SV → List Row → Prop := fun r Lo => ∃ (o : OpV) (g : Bool), Lo = [] ∧ r = .tup [(true, opC o), (false, [cB g])] ∧ opG b = if g then some o else none
theorem opOfs_at {xs : List Int} {ts : List (List UInt8)} {z : Int} (hn : xs.length = 25) (hw : ts.length = 2) (hz : zag (xs[5]'(by omega)).toNat = z) : opOfs xs ts = ⟨xs[0]'(by omega), xs[1]'(by omega), xs[2]'(by omega), xs.drop 9, xs[3]'(by omega), xs[4]'(by omega), z, xs[6]'(by omega), xs[7]'(by omega), xs[8]'(by omega), ts[0]'(by omega), ts[1]'(by omega)⟩ := by
 subst hz
 simp only [opOfs, List.getD_eq_getElem?_getD]
 simp only [List.getElem?_eq_getElem (show 0 < xs.length by omega), List.getElem?_eq_getElem (show 1 < xs.length by omega), List.getElem?_eq_getElem (show 2 < xs.length by omega), List.getElem?_eq_getElem (show 3 < xs.length by omega), List.getElem?_eq_getElem (show 4 < xs.length by omega), List.getElem?_eq_getElem (show 5 < xs.length by omega), List.getElem?_eq_getElem (show 6 < xs.length by omega), List.getElem?_eq_getElem (show 7 < xs.length by omega), List.getElem?_eq_getElem (show 8 < xs.length by omega), List.getElem?_eq_getElem (show 0 < ts.length by omega), List.getElem?_eq_getElem (show 1 < ts.length by omega), Option.getD_some]
theorem SlOf.from {α : Type} (l : List α) (f : α → List DV) {a n : Nat} (h : n = l.length - a) (ha : a ≤ l.length) : SlOf (l.map f) a n ((l.drop a).map f) :=
 ⟨by simp; omega, by rw [← List.map_drop, List.take_of_length_le (by simp; omega)]⟩
theorem s_l13Op (B : List UInt8) (hl : B.length ≤ 2 ^ 30) : CallM Try.prog id_spec_l13Op [vY B] [] [] false (OpP B) := by
 refine F_spec_l13Op ?_
 try (conv => whnf)
 refine Hand.mk [] ?_
 try (conv => whnf)
 refine CallW.n (s_runs B 0 (by omega) (by omega)) ?_
 rintro _ _ ⟨c, bad, xs, rfl, rfl, hc, hxl, hx⟩
 cases hr : getR0 B 0 with
 | none =>
  rw [hr] at hx
  dsimp only at hx
  subst hx
  try (conv => whnf)
  refine Hand.mk [] ?_
  try (conv => whnf)
  refine CallW.n (s_textsB (by omega) hc) ?_
  rintro _ _ ⟨d, rfl, rfl, hd⟩
  try (conv => whnf)
  repeat' (first
   | (refine SeqJ.thru ?_; conv => whnf)
   | (refine br_dec (fun _ => ?_) (fun _ => ?_) <;> first | (exfalso; omega) | contradiction | conv => whnf)
   | (refine br_not ?_; conv => whnf)
   | (refine br_bne (fun _ => ?_) (fun _ => ?_) <;> first | (exfalso; omega) | contradiction | conv => whnf)
   | (refine br_beq (fun _ => ?_) (fun _ => ?_) <;> first | (exfalso; omega) | contradiction | conv => whnf))
  refine Out.mk true [] [] ?_
  try (conv => whnf)
  exact ⟨⟨⟨0, 0, 0, [], 0, 0, 0, 0, 0, 0, [], []⟩, false, rfl, rfl, (opH_none1 hr)⟩⟩
 | some r =>
  obtain ⟨ys, c'⟩ := r
  rw [hr] at hx
  dsimp only at hx
  obtain ⟨rfl, rfl, rfl⟩ := hx
  try (conv => whnf)
  refine Hand.mk [] ?_
  try (conv => whnf)
  refine CallW.n (s_texts B c (by omega) hc) ?_
  rintro _ _ ⟨d, bad, ts, rfl, rfl, hd, ht⟩
  cases hT : getT B c with
  | none =>
   rw [hT] at ht
   dsimp only at ht
   subst ht
   try (conv => whnf)
   repeat' (first
    | (refine SeqJ.thru ?_; conv => whnf)
    | (refine br_dec (fun _ => ?_) (fun _ => ?_) <;> first | (exfalso; omega) | contradiction | conv => whnf)
    | (refine br_not ?_; conv => whnf)
    | (refine br_bne (fun _ => ?_) (fun _ => ?_) <;> first | (exfalso; omega) | contradiction | conv => whnf)
    | (refine br_beq (fun _ => ?_) (fun _ => ?_) <;> first | (exfalso; omega) | contradiction | conv => whnf))
   refine Out.mk true [] [] ?_
   try (conv => whnf)
   exact ⟨⟨⟨0, 0, 0, [], 0, 0, 0, 0, 0, 0, [], []⟩, false, rfl, rfl, (opH_none2 hr hT)⟩⟩
  | some r =>
   obtain ⟨us, d'⟩ := r
   rw [hT] at ht
   dsimp only at ht
   obtain ⟨rfl, rfl, rfl⟩ := ht
   have hI := opH_if hr hT
   by_cases hall : d = B.length ∧ xs.length = 25 ∧ ts.length = 2
   rotate_left
   ·have hR : opG B = none := by rw [hI, if_neg (fun g => hall g.1)]
    have hR2 : ¬ (d = B.length ∧ xs.length = 25 ∧ ts.length = 2) → opG B = none := fun _ => hR
    try (conv => whnf)
    repeat' (first
     | (refine Pick.mk ?_ ?_ ?_; rotate_left; (focus (exact List.length_map _)); conv => whnf)
     | (refine SeqJ.thru ?_; conv => whnf)
     | (refine br_dec (fun _ => ?_) (fun _ => ?_) <;> first | (exfalso; omega) | contradiction | conv => whnf)
     | (refine br_not ?_; conv => whnf)
     | (refine br_bne (fun _ => ?_) (fun _ => ?_) <;> first | (exfalso; omega) | contradiction | conv => whnf)
     | (refine br_beq (fun _ => ?_) (fun _ => ?_) <;> first | (exfalso; omega) | contradiction | conv => whnf))
    all_goals
     refine Out.mk true [] [] ?_
     try (conv => whnf)
     exact ⟨⟨⟨0, 0, 0, [], 0, 0, 0, 0, 0, 0, [], []⟩, false, rfl, rfl, hR⟩⟩
   ·obtain ⟨rfl, hn, hw⟩ := hall
    have h5 : inM (xs[5]'(by omega)) := (getR0_inv hr).2.2.1 _ (List.getElem_mem _)
    have h5' := h5
    unfold inM M4 at h5'
    have h5'' : 0 ≤ xs[Int.toNat 5]'(by simp; omega) ∧ xs[Int.toNat 5]'(by simp; omega) ≤ 1152921504606846975 := h5'
    obtain ⟨z, hz⟩ : ∃ z, zag (xs[5]'(by omega)).toNat = z := ⟨_, rfl⟩
    have ho := opOfs_at hn hw hz
    have hts := getT_inv hT
    have ht0 := total_get (l := ts) (i := 0) (by omega)
    have ht1 := total_get (l := ts) (i := 1) (by omega)
    simp only [MaxB] at hts
    have hk1 : (opOfs xs ts).key.length ≤ 2 ^ 40 := by rw [ho]; dsimp only; omega
    have hk2 : (opOfs xs ts).text.length ≤ 2 ^ 40 := by rw [ho]; dsimp only; omega
    have co : CallD Try.prog id_spec_l08OpOK [vO ⟨xs[0]'(by omega), xs[1]'(by omega), xs[2]'(by omega), xs.drop 9, xs[3]'(by omega), xs[4]'(by omega), z, xs[6]'(by omega), xs[7]'(by omega), xs[8]'(by omega), ts[0]'(by omega), ts[1]'(by omega)⟩] [] (vB (decide (OpOk (opOfs xs ts)))) [] := by
     have h := s_l08OpOK (opOfs xs ts) hk1 hk2
     rw [ho] at h ⊢
     exact h
    obtain ⟨C, hC⟩ : ∃ C, C = opB (opOfs xs ts) := ⟨_, rfl⟩
    have cb : OpOk (opOfs xs ts) → CallD Try.prog id_spec_l12Bytes [vO ⟨xs[0]'(by omega), xs[1]'(by omega), xs[2]'(by omega), xs.drop 9, xs[3]'(by omega), xs[4]'(by omega), z, xs[6]'(by omega), xs[7]'(by omega), xs[8]'(by omega), ts[0]'(by omega), ts[1]'(by omega)⟩] [] (.one (.os (.v 0) 1 0 C.length)) [.own 1 (C.map byD)] := fun h => by
     have h := s_l12Bytes (opOfs xs ts) h
     rw [← hC] at h
     rw [ho] at h
     exact h
    try (conv => whnf)
    repeat' (first
     | (refine br_dec (fun _ => ?_) (fun _ => ?_) <;> first | (exfalso; omega) | contradiction | conv => whnf)
     | (refine br_not ?_; conv => whnf)
     | (refine br_bne (fun _ => ?_) (fun _ => ?_) <;> first | (exfalso; omega) | contradiction | conv => whnf)
     | (refine br_beq (fun _ => ?_) (fun _ => ?_) <;> first | (exfalso; omega) | contradiction | conv => whnf))
    refine SeqJ.thru ?_
    try (conv => whnf)
    repeat' (first
     | (refine Pick.mk ?_ ?_ ?_; rotate_left; (focus (exact List.length_map _)); conv => whnf)
     | (refine br_dec (fun _ => ?_) (fun _ => ?_) <;> first | (exfalso; omega) | contradiction | conv => whnf)
     | (refine br_not ?_; conv => whnf)
     | (refine br_bne (fun _ => ?_) (fun _ => ?_) <;> first | (exfalso; omega) | contradiction | conv => whnf)
     | (refine br_beq (fun _ => ?_) (fun _ => ?_) <;> first | (exfalso; omega) | contradiction | conv => whnf))
    refine SeqJ.join (fun _ : Unit => mk [(0, vY B), (2, .one (.ptr 4096 0)), (5, .one (.os (.v 12304) 1 0 xs.length)), (7, .one (.ptr 29328 0))] [(4096, .box [cI 0, cI 0, cI 0, .nil, cI 0, cI 0, cI 0, cI 0, cI 0, cI 0, cS (bs []), cS (bs [])]), (12304, .own 1 (xs.map inD)), (29328, .box [cI (xs[0]'(by omega)), cI (xs[1]'(by omega)), cI (xs[2]'(by omega)), cN (xs.drop 9), cI (xs[3]'(by omega)), cI (xs[4]'(by omega)), cI ((xs[Int.toNat 5]'(by simp; omega)) / 2), cI (xs[6]'(by omega)), cI (xs[7]'(by omega)), cI (xs[8]'(by omega)), cS (bs (ts[0]'(by omega))), cS (bs (ts[1]'(by omega)))])]) (fun _ => True) ?_ ?_
    ·try (conv => whnf)
     repeat (first
      | (refine Need.mk ?_ ?_; (focus (omega)); conv => whnf)
      | (refine Pick.mk ?_ ?_ ?_; rotate_left; (focus (first | (with_reducible refine get_mapI _ _ _ ?_ ?_ <;> first | omega | (simp; omega)) | (refine bnd_int ?_ ?_ <;> omega) | (refine wdiv ?_ ?_ ?_ <;> omega))); conv => whnf))
     try (conv => whnf)
     repeat' (first
      | (refine Need.ways ?_ ?_ <;> conv => whnf)
      | (refine Need.mk ?_ ?_; (focus (((conv => whnf); (repeat (first | (refine Need.mk (by first | rfl | omega | (simp; done)) ?_; conv => whnf) | (refine Pick.mk ?_ ?_ ?_; rotate_left; (focus (first | with_reducible exact xor_u8 _ _ | (with_reducible refine xor_i64 ?_ ?_; all_goals omega) | (with_reducible refine xor_u32 ?_ ?_; all_goals omega) | with_reducible exact hzt.out | (refine SlF.from _ _ ?_ ?_ (fun _ => rfl); focus (first | rfl | simp); focus (simp; omega)) | (refine SlOf.from _ _ ?_ ?_; focus (simp); focus (simp; omega)) | assumption | with_reducible exact set_byN _ _ _ _ | with_reducible exact set_byI _ _ _ _ | with_reducible exact set_inN _ _ _ _ | with_reducible exact set_inI _ _ _ _ | with_reducible exact set_stN _ _ _ _ | with_reducible exact set_tsN _ _ _ _ | with_reducible exact set_tsI _ _ _ _ | with_reducible exact set_boN _ _ _ _ | with_reducible exact set_boI _ _ _ _ | (with_reducible refine get_mapN _ _ _ ?_; first | omega | (simp; omega)) | (with_reducible refine get_mapI _ _ _ ?_ ?_ <;> first | omega | (simp; omega)) | exact bs_beq _ _ | exact bs_less _ _ | exact bs_leq _ _ | with_reducible exact bs_app _ _ | (refine bs_get _ _ ?_; omega) | (refine bs_int _ _ ?_ ?_ <;> omega) | with_reducible exact sl_map0 _ _ _ | with_reducible exact sl_mapN _ _ _ | with_reducible exact sl_map _ _ _ _ | exact bs_extract0 _ _ | exact bs_extractN _ _ | exact bs_extract _ _ _ | (refine bnd_id ?_; omega) | (refine bnd_sub ?_ ?_ <;> omega) | (refine bnd_add ?_; omega) | (refine bnd_subN ?_ ?_ <;> omega) | (refine bnd_int ?_ ?_ <;> omega) | ((show @Eq Nat (_ + Int.toNat _ * _) _); simp only [Int.toNat_natCast, Nat.zero_add, Nat.mul_one]; rfl) | ((show @Eq (List _) (List.set [_] _ _) _); simp only [List.set_cons_zero]; rfl) | exact List.length_map _ | exact size_bs _ | (simp only [List.length_map, List.length_append, List.length_cons, List.length_nil, List.length_replicate, Nat.zero_add]; rfl) | with_reducible exact List.nil_append _ | with_reducible exact map_app _ _ _ | exact map_snoc byD _ _ | exact map_snoc inD _ _ | exact map_snoc stD _ _ | exact map_snoc tsD _ _ | (simp only [chunks]; rfl) | (refine wid ?_ ?_ <;> omega) | exact wby _ | with_reducible exact wby32 _ | with_reducible exact wu32 _ | exact wby64 _ | exact shr8 _ | exact shr16 _ | exact shr24 _ | exact shr32 _ | (refine tmodn ?_; omega) | (refine wdiv ?_ ?_ ?_ <;> omega) | exact wbyte _ | exact natlit _ | exact rep_by _ | exact rep_in _ | exact rep_bo _ | exact rep_st _ | (refine pick_nat _ _ _ ?_; omega) | (refine pick_int _ _ _ ?_ ?_ <;> omega) | (refine SlOf.full ?_; first | (simp; done) | (simp; omega)) | (with_reducible refine SlOf.pre _ _ ?_; first | omega | (simp; omega)) | (refine SlF.self _ _ ?_ ?_; (first | rfl | omega | (simp; done) | (simp; omega)); (exact fun _ => rfl)) | (refine SlF.pre _ _ ?_ ?_; (first | omega | (simp; omega)); (exact fun _ => rfl)) | (refine SlF.same ?_ ?_; (first | rfl | omega | (simp; done) | (simp; omega)); (first | exact fz_self _ _ (fun _ => rfl) | exact fz_pl rfl | (refine Fz.append ?_ ?_ <;> first | exact fz_self _ _ (fun _ => rfl) | exact fz_pl rfl) | (refine Fz.append (Fz.append ?_ ?_) ?_ <;> first | exact fz_self _ _ (fun _ => rfl) | exact fz_pl rfl))) | (simp only [Int.toNat_natCast, Nat.zero_add, Nat.mul_one]; rfl) | ((show @Eq (Option CV) _ _); rfl) | ((fail_if_success (show @Eq (Option _) _ _)); rfl) | ((show @Eq (Option _) _ _); simp only [List.getElem?_cons_zero, List.getElem?_cons_succ]; done) | ((show @Eq (Option _) _ _); simp only [List.getElem?_cons_zero, List.getElem?_cons_succ]; rfl) | with_reducible rfl)); conv => whnf))); exact Done.mk trivial))); conv => whnf)
      | (refine Pick.mk ?_ ?_ ?_; rotate_left; (focus (first | (simp only [chunks]; rfl) | (refine SlOf.full ?_; first | (simp; done) | (simp; omega)))); conv => whnf))
     all_goals
      refine Pick.mk ((xs.drop 9).map inD) (SlOf.from xs inD (by simp) (by simp; omega)) ?_
      try (conv => whnf)
      repeat (first
       | (refine Need.mk ?_ ?_; (focus (first | (simp; omega) | (first | exact fz_self _ _ (fun _ => rfl) | exact fz_pl rfl | (refine Fz.append ?_ ?_ <;> first | exact fz_self _ _ (fun _ => rfl) | exact fz_pl rfl) | (refine Fz.append (Fz.append ?_ ?_) ?_ <;> first | exact fz_self _ _ (fun _ => rfl) | exact fz_pl rfl)) | ((conv => whnf); (repeat (first | (refine Need.mk (by first | rfl | omega | (simp; done)) ?_; conv => whnf) | (refine Pick.mk ?_ ?_ ?_; rotate_left; (focus (first | with_reducible exact xor_u8 _ _ | (with_reducible refine xor_i64 ?_ ?_; all_goals omega) | (with_reducible refine xor_u32 ?_ ?_; all_goals omega) | with_reducible exact hzt.out | (refine SlF.from _ _ ?_ ?_ (fun _ => rfl); focus (first | rfl | simp); focus (simp; omega)) | (refine SlOf.from _ _ ?_ ?_; focus (simp); focus (simp; omega)) | assumption | with_reducible exact set_byN _ _ _ _ | with_reducible exact set_byI _ _ _ _ | with_reducible exact set_inN _ _ _ _ | with_reducible exact set_inI _ _ _ _ | with_reducible exact set_stN _ _ _ _ | with_reducible exact set_tsN _ _ _ _ | with_reducible exact set_tsI _ _ _ _ | with_reducible exact set_boN _ _ _ _ | with_reducible exact set_boI _ _ _ _ | (with_reducible refine get_mapN _ _ _ ?_; first | omega | (simp; omega)) | (with_reducible refine get_mapI _ _ _ ?_ ?_ <;> first | omega | (simp; omega)) | exact bs_beq _ _ | exact bs_less _ _ | exact bs_leq _ _ | with_reducible exact bs_app _ _ | (refine bs_get _ _ ?_; omega) | (refine bs_int _ _ ?_ ?_ <;> omega) | with_reducible exact sl_map0 _ _ _ | with_reducible exact sl_mapN _ _ _ | with_reducible exact sl_map _ _ _ _ | exact bs_extract0 _ _ | exact bs_extractN _ _ | exact bs_extract _ _ _ | (refine bnd_id ?_; omega) | (refine bnd_sub ?_ ?_ <;> omega) | (refine bnd_add ?_; omega) | (refine bnd_subN ?_ ?_ <;> omega) | (refine bnd_int ?_ ?_ <;> omega) | ((show @Eq Nat (_ + Int.toNat _ * _) _); simp only [Int.toNat_natCast, Nat.zero_add, Nat.mul_one]; rfl) | ((show @Eq (List _) (List.set [_] _ _) _); simp only [List.set_cons_zero]; rfl) | exact List.length_map _ | exact size_bs _ | (simp only [List.length_map, List.length_append, List.length_cons, List.length_nil, List.length_replicate, Nat.zero_add]; rfl) | with_reducible exact List.nil_append _ | with_reducible exact map_app _ _ _ | exact map_snoc byD _ _ | exact map_snoc inD _ _ | exact map_snoc stD _ _ | exact map_snoc tsD _ _ | (simp only [chunks]; rfl) | (refine wid ?_ ?_ <;> omega) | exact wby _ | with_reducible exact wby32 _ | with_reducible exact wu32 _ | exact wby64 _ | exact shr8 _ | exact shr16 _ | exact shr24 _ | exact shr32 _ | (refine tmodn ?_; omega) | (refine wdiv ?_ ?_ ?_ <;> omega) | exact wbyte _ | exact natlit _ | exact rep_by _ | exact rep_in _ | exact rep_bo _ | exact rep_st _ | (refine pick_nat _ _ _ ?_; omega) | (refine pick_int _ _ _ ?_ ?_ <;> omega) | (refine SlOf.full ?_; first | (simp; done) | (simp; omega)) | (with_reducible refine SlOf.pre _ _ ?_; first | omega | (simp; omega)) | (refine SlF.self _ _ ?_ ?_; (first | rfl | omega | (simp; done) | (simp; omega)); (exact fun _ => rfl)) | (refine SlF.pre _ _ ?_ ?_; (first | omega | (simp; omega)); (exact fun _ => rfl)) | (refine SlF.same ?_ ?_; (first | rfl | omega | (simp; done) | (simp; omega)); (first | exact fz_self _ _ (fun _ => rfl) | exact fz_pl rfl | (refine Fz.append ?_ ?_ <;> first | exact fz_self _ _ (fun _ => rfl) | exact fz_pl rfl) | (refine Fz.append (Fz.append ?_ ?_) ?_ <;> first | exact fz_self _ _ (fun _ => rfl) | exact fz_pl rfl))) | (simp only [Int.toNat_natCast, Nat.zero_add, Nat.mul_one]; rfl) | ((show @Eq (Option CV) _ _); rfl) | ((fail_if_success (show @Eq (Option _) _ _)); rfl) | ((show @Eq (Option _) _ _); simp only [List.getElem?_cons_zero, List.getElem?_cons_succ]; done) | ((show @Eq (Option _) _ _); simp only [List.getElem?_cons_zero, List.getElem?_cons_succ]; rfl) | with_reducible rfl)); conv => whnf))); exact Done.mk trivial))); conv => whnf)
       | (refine Pick.mk ?_ ?_ ?_; rotate_left; (focus (first | (simp only [List.length_map, List.length_append, List.length_cons, List.length_nil, List.length_replicate, Nat.zero_add]; rfl) | with_reducible exact List.nil_append _)); conv => whnf))
      refine Pick.mk () trivial (LeX.of ?_)
      try (conv => whnf)
      repeat (refine Need.mk ?_ ?_; (focus (first | omega | (simp; done) | rfl)); conv => whnf)
      refine Need.mk (SlF.self _ _ rfl (fun _ => rfl)) ?_
      try (conv => whnf)
      repeat (refine Need.mk ?_ ?_; (focus (first | omega | (simp; done))); conv => whnf)
      trivial
    ·rintro - -
     try (conv => whnf)
     refine SeqJ.join (fun _ : Unit => mk [(0, vY B), (2, .one (.ptr 4096 0)), (7, .one (.ptr 29328 0))] [(4096, .box [cI 0, cI 0, cI 0, .nil, cI 0, cI 0, cI 0, cI 0, cI 0, cI 0, cS (bs []), cS (bs [])]), (29328, .box [cI (xs[0]'(by omega)), cI (xs[1]'(by omega)), cI (xs[2]'(by omega)), cN (xs.drop 9), cI (xs[3]'(by omega)), cI (xs[4]'(by omega)), cI z, cI (xs[6]'(by omega)), cI (xs[7]'(by omega)), cI (xs[8]'(by omega)), cS (bs (ts[0]'(by omega))), cS (bs (ts[1]'(by omega)))])]) (fun _ => True) ?_ ?_
     ·by_cases hz2 : (xs[5]'(by omega)) % 2 = 1
      ·have hz3 : (xs[Int.toNat 5]'(by simp; omega)) % 2 = 1 := hz2
       have hzt : Hid (IntKind.i64.wrap (((0 : Int) - ((xs[Int.toNat 5]'(by simp; omega)) + 1)).tdiv 2) = z) := ⟨by
        rw [← hz]
        have := zag_tdiv (z := (xs[5]'(by omega)).toNat) (by omega) (by omega)
        rwa [Int.toNat_of_nonneg (by omega)] at this⟩
       try (conv => whnf)
       repeat' (first
        | (refine Need.mk ?_ ?_; (focus (omega)); conv => whnf)
        | (refine Pick.mk ?_ ?_ ?_; rotate_left; (focus (first | with_reducible exact hzt.out | (with_reducible refine get_mapI _ _ _ ?_ ?_ <;> first | omega | (simp; omega)) | (refine wid ?_ ?_ <;> omega) | (refine tmodn ?_; omega))); conv => whnf)
        | (refine br_dec (fun _ => ?_) (fun _ => ?_) <;> first | (exfalso; omega) | contradiction | conv => whnf)
        | (refine br_not ?_; conv => whnf)
        | (refine br_bne (fun _ => ?_) (fun _ => ?_) <;> first | (exfalso; omega) | contradiction | conv => whnf)
        | (refine br_beq (fun _ => ?_) (fun _ => ?_) <;> first | (exfalso; omega) | contradiction | conv => whnf))
       refine Pick.mk () trivial (LeX.of ?_)
       try (conv => whnf)
       repeat (refine Need.mk ?_ ?_; (focus (first | omega | (simp; done))); conv => whnf)
       trivial
      ·have hz3 : ¬ (xs[Int.toNat 5]'(by simp; omega)) % 2 = 1 := hz2
       have hzt : (xs[Int.toNat 5]'(by simp; omega)) / 2 = z := by
        rw [← hz, zag, if_neg (by show ¬ (xs[Int.toNat 5]'(by simp; omega)).toNat % 2 = 1; omega)]
        show _ = (((xs[Int.toNat 5]'(by simp; omega)).toNat / 2 : Nat) : Int)
        omega
       try (conv => whnf)
       repeat' (first
        | (refine Need.mk ?_ ?_; (focus (omega)); conv => whnf)
        | (refine Pick.mk ?_ ?_ ?_; rotate_left; (focus (first | (with_reducible refine get_mapI _ _ _ ?_ ?_ <;> first | omega | (simp; omega)) | (refine tmodn ?_; omega))); conv => whnf)
        | (refine br_dec (fun _ => ?_) (fun _ => ?_) <;> first | (exfalso; omega) | contradiction | conv => whnf)
        | (refine br_not ?_; conv => whnf)
        | (refine br_bne (fun _ => ?_) (fun _ => ?_) <;> first | (exfalso; omega) | contradiction | conv => whnf)
        | (refine br_beq (fun _ => ?_) (fun _ => ?_) <;> first | (exfalso; omega) | contradiction | conv => whnf))
       refine Pick.mk () trivial (LeX.of ?_)
       try (conv => whnf)
       repeat (refine Need.mk ?_ ?_; (focus (first | omega | (simp; done))); conv => whnf)
       trivial
     ·rintro - -
      try (conv => whnf)
      refine Hand.mk [] ?_
      try (conv => whnf)
      refine CallW.d (co) ?_
      try (conv => whnf)
      repeat (refine Need.mk ?_ ?_; (focus (((conv => whnf); (repeat (first | (refine Need.mk (by first | rfl | omega | (simp; done)) ?_; conv => whnf) | (refine Pick.mk ?_ ?_ ?_; rotate_left; (focus (first | with_reducible exact xor_u8 _ _ | (with_reducible refine xor_i64 ?_ ?_; all_goals omega) | (with_reducible refine xor_u32 ?_ ?_; all_goals omega) | with_reducible exact hzt.out | (refine SlF.from _ _ ?_ ?_ (fun _ => rfl); focus (first | rfl | simp); focus (simp; omega)) | (refine SlOf.from _ _ ?_ ?_; focus (simp); focus (simp; omega)) | assumption | with_reducible exact set_byN _ _ _ _ | with_reducible exact set_byI _ _ _ _ | with_reducible exact set_inN _ _ _ _ | with_reducible exact set_inI _ _ _ _ | with_reducible exact set_stN _ _ _ _ | with_reducible exact set_tsN _ _ _ _ | with_reducible exact set_tsI _ _ _ _ | with_reducible exact set_boN _ _ _ _ | with_reducible exact set_boI _ _ _ _ | (with_reducible refine get_mapN _ _ _ ?_; first | omega | (simp; omega)) | (with_reducible refine get_mapI _ _ _ ?_ ?_ <;> first | omega | (simp; omega)) | exact bs_beq _ _ | exact bs_less _ _ | exact bs_leq _ _ | with_reducible exact bs_app _ _ | (refine bs_get _ _ ?_; omega) | (refine bs_int _ _ ?_ ?_ <;> omega) | with_reducible exact sl_map0 _ _ _ | with_reducible exact sl_mapN _ _ _ | with_reducible exact sl_map _ _ _ _ | exact bs_extract0 _ _ | exact bs_extractN _ _ | exact bs_extract _ _ _ | (refine bnd_id ?_; omega) | (refine bnd_sub ?_ ?_ <;> omega) | (refine bnd_add ?_; omega) | (refine bnd_subN ?_ ?_ <;> omega) | (refine bnd_int ?_ ?_ <;> omega) | ((show @Eq Nat (_ + Int.toNat _ * _) _); simp only [Int.toNat_natCast, Nat.zero_add, Nat.mul_one]; rfl) | ((show @Eq (List _) (List.set [_] _ _) _); simp only [List.set_cons_zero]; rfl) | exact List.length_map _ | exact size_bs _ | (simp only [List.length_map, List.length_append, List.length_cons, List.length_nil, List.length_replicate, Nat.zero_add]; rfl) | with_reducible exact List.nil_append _ | with_reducible exact map_app _ _ _ | exact map_snoc byD _ _ | exact map_snoc inD _ _ | exact map_snoc stD _ _ | exact map_snoc tsD _ _ | (simp only [chunks]; rfl) | (refine wid ?_ ?_ <;> omega) | exact wby _ | with_reducible exact wby32 _ | with_reducible exact wu32 _ | exact wby64 _ | exact shr8 _ | exact shr16 _ | exact shr24 _ | exact shr32 _ | (refine tmodn ?_; omega) | (refine wdiv ?_ ?_ ?_ <;> omega) | exact wbyte _ | exact natlit _ | exact rep_by _ | exact rep_in _ | exact rep_bo _ | exact rep_st _ | (refine pick_nat _ _ _ ?_; omega) | (refine pick_int _ _ _ ?_ ?_ <;> omega) | (refine SlOf.full ?_; first | (simp; done) | (simp; omega)) | (with_reducible refine SlOf.pre _ _ ?_; first | omega | (simp; omega)) | (refine SlF.self _ _ ?_ ?_; (first | rfl | omega | (simp; done) | (simp; omega)); (exact fun _ => rfl)) | (refine SlF.pre _ _ ?_ ?_; (first | omega | (simp; omega)); (exact fun _ => rfl)) | (refine SlF.same ?_ ?_; (first | rfl | omega | (simp; done) | (simp; omega)); (first | exact fz_self _ _ (fun _ => rfl) | exact fz_pl rfl | (refine Fz.append ?_ ?_ <;> first | exact fz_self _ _ (fun _ => rfl) | exact fz_pl rfl) | (refine Fz.append (Fz.append ?_ ?_) ?_ <;> first | exact fz_self _ _ (fun _ => rfl) | exact fz_pl rfl))) | (simp only [Int.toNat_natCast, Nat.zero_add, Nat.mul_one]; rfl) | ((show @Eq (Option CV) _ _); rfl) | ((fail_if_success (show @Eq (Option _) _ _)); rfl) | ((show @Eq (Option _) _ _); simp only [List.getElem?_cons_zero, List.getElem?_cons_succ]; done) | ((show @Eq (Option _) _ _); simp only [List.getElem?_cons_zero, List.getElem?_cons_succ]; rfl) | with_reducible rfl)); conv => whnf))); exact Done.mk trivial))); conv => whnf)
      by_cases hok : OpOk (opOfs xs ts)
      ·have cb := cb hok
       have hCl : C.length ≤ 2 ^ 40 := by
        have := opB_len hok
        rw [← hC] at this
        omega
       try (conv => whnf)
       repeat' (first
        | (refine Pick.mk ?_ ?_ ?_; rotate_left; (focus (((fail_if_success (show @Eq (Option _) _ _)); rfl))); conv => whnf)
        | (refine br_dec (fun _ => ?_) (fun _ => ?_) <;> first | (exfalso; omega) | contradiction | conv => whnf)
        | (refine br_not ?_; conv => whnf)
        | (refine br_bne (fun _ => ?_) (fun _ => ?_) <;> first | (exfalso; omega) | contradiction | conv => whnf)
        | (refine br_beq (fun _ => ?_) (fun _ => ?_) <;> first | (exfalso; omega) | contradiction | conv => whnf))
       refine Hand.mk [] ?_
       try (conv => whnf)
       refine CallW.d (cb) ?_
       try (conv => whnf)
       repeat (first
        | (refine Need.mk ?_ ?_; (focus (((conv => whnf); (repeat (first | (refine Need.mk (by first | rfl | omega | (simp; done)) ?_; conv => whnf) | (refine Pick.mk ?_ ?_ ?_; rotate_left; (focus (first | with_reducible exact xor_u8 _ _ | (with_reducible refine xor_i64 ?_ ?_; all_goals omega) | (with_reducible refine xor_u32 ?_ ?_; all_goals omega) | with_reducible exact hzt.out | (refine SlF.from _ _ ?_ ?_ (fun _ => rfl); focus (first | rfl | simp); focus (simp; omega)) | (refine SlOf.from _ _ ?_ ?_; focus (simp); focus (simp; omega)) | assumption | with_reducible exact set_byN _ _ _ _ | with_reducible exact set_byI _ _ _ _ | with_reducible exact set_inN _ _ _ _ | with_reducible exact set_inI _ _ _ _ | with_reducible exact set_stN _ _ _ _ | with_reducible exact set_tsN _ _ _ _ | with_reducible exact set_tsI _ _ _ _ | with_reducible exact set_boN _ _ _ _ | with_reducible exact set_boI _ _ _ _ | (with_reducible refine get_mapN _ _ _ ?_; first | omega | (simp; omega)) | (with_reducible refine get_mapI _ _ _ ?_ ?_ <;> first | omega | (simp; omega)) | exact bs_beq _ _ | exact bs_less _ _ | exact bs_leq _ _ | with_reducible exact bs_app _ _ | (refine bs_get _ _ ?_; omega) | (refine bs_int _ _ ?_ ?_ <;> omega) | with_reducible exact sl_map0 _ _ _ | with_reducible exact sl_mapN _ _ _ | with_reducible exact sl_map _ _ _ _ | exact bs_extract0 _ _ | exact bs_extractN _ _ | exact bs_extract _ _ _ | (refine bnd_id ?_; omega) | (refine bnd_sub ?_ ?_ <;> omega) | (refine bnd_add ?_; omega) | (refine bnd_subN ?_ ?_ <;> omega) | (refine bnd_int ?_ ?_ <;> omega) | ((show @Eq Nat (_ + Int.toNat _ * _) _); simp only [Int.toNat_natCast, Nat.zero_add, Nat.mul_one]; rfl) | ((show @Eq (List _) (List.set [_] _ _) _); simp only [List.set_cons_zero]; rfl) | exact List.length_map _ | exact size_bs _ | (simp only [List.length_map, List.length_append, List.length_cons, List.length_nil, List.length_replicate, Nat.zero_add]; rfl) | with_reducible exact List.nil_append _ | with_reducible exact map_app _ _ _ | exact map_snoc byD _ _ | exact map_snoc inD _ _ | exact map_snoc stD _ _ | exact map_snoc tsD _ _ | (simp only [chunks]; rfl) | (refine wid ?_ ?_ <;> omega) | exact wby _ | with_reducible exact wby32 _ | with_reducible exact wu32 _ | exact wby64 _ | exact shr8 _ | exact shr16 _ | exact shr24 _ | exact shr32 _ | (refine tmodn ?_; omega) | (refine wdiv ?_ ?_ ?_ <;> omega) | exact wbyte _ | exact natlit _ | exact rep_by _ | exact rep_in _ | exact rep_bo _ | exact rep_st _ | (refine pick_nat _ _ _ ?_; omega) | (refine pick_int _ _ _ ?_ ?_ <;> omega) | (refine SlOf.full ?_; first | (simp; done) | (simp; omega)) | (with_reducible refine SlOf.pre _ _ ?_; first | omega | (simp; omega)) | (refine SlF.self _ _ ?_ ?_; (first | rfl | omega | (simp; done) | (simp; omega)); (exact fun _ => rfl)) | (refine SlF.pre _ _ ?_ ?_; (first | omega | (simp; omega)); (exact fun _ => rfl)) | (refine SlF.same ?_ ?_; (first | rfl | omega | (simp; done) | (simp; omega)); (first | exact fz_self _ _ (fun _ => rfl) | exact fz_pl rfl | (refine Fz.append ?_ ?_ <;> first | exact fz_self _ _ (fun _ => rfl) | exact fz_pl rfl) | (refine Fz.append (Fz.append ?_ ?_) ?_ <;> first | exact fz_self _ _ (fun _ => rfl) | exact fz_pl rfl))) | (simp only [Int.toNat_natCast, Nat.zero_add, Nat.mul_one]; rfl) | ((show @Eq (Option CV) _ _); rfl) | ((fail_if_success (show @Eq (Option _) _ _)); rfl) | ((show @Eq (Option _) _ _); simp only [List.getElem?_cons_zero, List.getElem?_cons_succ]; done) | ((show @Eq (Option _) _ _); simp only [List.getElem?_cons_zero, List.getElem?_cons_succ]; rfl) | with_reducible rfl)); conv => whnf))); exact Done.mk trivial))); conv => whnf)
        | (refine Pick.mk ?_ ?_ ?_; rotate_left; (focus (first | exact bs_beq _ _ | (refine SlOf.full ?_; first | (simp; done) | (simp; omega)))); conv => whnf))
       by_cases hCB : C = B
       ·try (conv => whnf)
        repeat' (first
         | (refine br_dec (fun _ => ?_) (fun _ => ?_) <;> first | (exfalso; omega) | contradiction | conv => whnf)
         | (refine br_not ?_; conv => whnf)
         | (refine br_bne (fun _ => ?_) (fun _ => ?_) <;> first | (exfalso; omega) | contradiction | conv => whnf)
         | (refine br_beq (fun _ => ?_) (fun _ => ?_) <;> first | (exfalso; omega) | contradiction | conv => whnf))
        refine Out.mk true [] [] ?_
        try (conv => whnf)
        exact ⟨⟨opOfs xs ts, true, rfl, by rw [ho]; simp [hCB], by rw [hI, if_pos ⟨⟨rfl, hn, hw⟩, hok, hC ▸ hCB⟩]; rfl⟩⟩
       ·try (conv => whnf)
        repeat' (first
         | (refine br_dec (fun _ => ?_) (fun _ => ?_) <;> first | (exfalso; omega) | contradiction | conv => whnf)
         | (refine br_not ?_; conv => whnf)
         | (refine br_bne (fun _ => ?_) (fun _ => ?_) <;> first | (exfalso; omega) | contradiction | conv => whnf)
         | (refine br_beq (fun _ => ?_) (fun _ => ?_) <;> first | (exfalso; omega) | contradiction | conv => whnf))
        refine Out.mk true [] [] ?_
        try (conv => whnf)
        exact ⟨⟨opOfs xs ts, false, rfl, by rw [ho]; simp [hCB], by rw [hI, if_neg (fun g => hCB (hC ▸ g.2.2))]; rfl⟩⟩
      ·try (conv => whnf)
       repeat' (first
        | (refine Need.mk ?_ ?_; (focus (((conv => whnf); (repeat (first | (refine Need.mk (by first | rfl | omega | (simp; done)) ?_; conv => whnf) | (refine Pick.mk ?_ ?_ ?_; rotate_left; (focus (first | with_reducible exact xor_u8 _ _ | (with_reducible refine xor_i64 ?_ ?_; all_goals omega) | (with_reducible refine xor_u32 ?_ ?_; all_goals omega) | with_reducible exact hzt.out | (refine SlF.from _ _ ?_ ?_ (fun _ => rfl); focus (first | rfl | simp); focus (simp; omega)) | (refine SlOf.from _ _ ?_ ?_; focus (simp); focus (simp; omega)) | assumption | with_reducible exact set_byN _ _ _ _ | with_reducible exact set_byI _ _ _ _ | with_reducible exact set_inN _ _ _ _ | with_reducible exact set_inI _ _ _ _ | with_reducible exact set_stN _ _ _ _ | with_reducible exact set_tsN _ _ _ _ | with_reducible exact set_tsI _ _ _ _ | with_reducible exact set_boN _ _ _ _ | with_reducible exact set_boI _ _ _ _ | (with_reducible refine get_mapN _ _ _ ?_; first | omega | (simp; omega)) | (with_reducible refine get_mapI _ _ _ ?_ ?_ <;> first | omega | (simp; omega)) | exact bs_beq _ _ | exact bs_less _ _ | exact bs_leq _ _ | with_reducible exact bs_app _ _ | (refine bs_get _ _ ?_; omega) | (refine bs_int _ _ ?_ ?_ <;> omega) | with_reducible exact sl_map0 _ _ _ | with_reducible exact sl_mapN _ _ _ | with_reducible exact sl_map _ _ _ _ | exact bs_extract0 _ _ | exact bs_extractN _ _ | exact bs_extract _ _ _ | (refine bnd_id ?_; omega) | (refine bnd_sub ?_ ?_ <;> omega) | (refine bnd_add ?_; omega) | (refine bnd_subN ?_ ?_ <;> omega) | (refine bnd_int ?_ ?_ <;> omega) | ((show @Eq Nat (_ + Int.toNat _ * _) _); simp only [Int.toNat_natCast, Nat.zero_add, Nat.mul_one]; rfl) | ((show @Eq (List _) (List.set [_] _ _) _); simp only [List.set_cons_zero]; rfl) | exact List.length_map _ | exact size_bs _ | (simp only [List.length_map, List.length_append, List.length_cons, List.length_nil, List.length_replicate, Nat.zero_add]; rfl) | with_reducible exact List.nil_append _ | with_reducible exact map_app _ _ _ | exact map_snoc byD _ _ | exact map_snoc inD _ _ | exact map_snoc stD _ _ | exact map_snoc tsD _ _ | (simp only [chunks]; rfl) | (refine wid ?_ ?_ <;> omega) | exact wby _ | with_reducible exact wby32 _ | with_reducible exact wu32 _ | exact wby64 _ | exact shr8 _ | exact shr16 _ | exact shr24 _ | exact shr32 _ | (refine tmodn ?_; omega) | (refine wdiv ?_ ?_ ?_ <;> omega) | exact wbyte _ | exact natlit _ | exact rep_by _ | exact rep_in _ | exact rep_bo _ | exact rep_st _ | (refine pick_nat _ _ _ ?_; omega) | (refine pick_int _ _ _ ?_ ?_ <;> omega) | (refine SlOf.full ?_; first | (simp; done) | (simp; omega)) | (with_reducible refine SlOf.pre _ _ ?_; first | omega | (simp; omega)) | (refine SlF.self _ _ ?_ ?_; (first | rfl | omega | (simp; done) | (simp; omega)); (exact fun _ => rfl)) | (refine SlF.pre _ _ ?_ ?_; (first | omega | (simp; omega)); (exact fun _ => rfl)) | (refine SlF.same ?_ ?_; (first | rfl | omega | (simp; done) | (simp; omega)); (first | exact fz_self _ _ (fun _ => rfl) | exact fz_pl rfl | (refine Fz.append ?_ ?_ <;> first | exact fz_self _ _ (fun _ => rfl) | exact fz_pl rfl) | (refine Fz.append (Fz.append ?_ ?_) ?_ <;> first | exact fz_self _ _ (fun _ => rfl) | exact fz_pl rfl))) | (simp only [Int.toNat_natCast, Nat.zero_add, Nat.mul_one]; rfl) | ((show @Eq (Option CV) _ _); rfl) | ((fail_if_success (show @Eq (Option _) _ _)); rfl) | ((show @Eq (Option _) _ _); simp only [List.getElem?_cons_zero, List.getElem?_cons_succ]; done) | ((show @Eq (Option _) _ _); simp only [List.getElem?_cons_zero, List.getElem?_cons_succ]; rfl) | with_reducible rfl)); conv => whnf))); exact Done.mk trivial))); conv => whnf)
        | (refine br_dec (fun _ => ?_) (fun _ => ?_) <;> first | (exfalso; omega) | contradiction | conv => whnf)
        | (refine br_not ?_; conv => whnf)
        | (refine br_bne (fun _ => ?_) (fun _ => ?_) <;> first | (exfalso; omega) | contradiction | conv => whnf)
        | (refine br_beq (fun _ => ?_) (fun _ => ?_) <;> first | (exfalso; omega) | contradiction | conv => whnf))
       refine Out.mk true [] [] ?_
       try (conv => whnf)
       exact ⟨⟨opOfs xs ts, false, rfl, by rw [ho], by rw [hI, if_neg (fun g => hok g.2.1)]; rfl⟩⟩
end Go.Proofs.Ytpdjehnlejjfmaa.D
/- Records read out of bytes, by the reference. -/
namespace Go.Proofs.Ytpdjehnlejjfmaa.D
open Go.RowKit
set_option maxRecDepth 100000
set_option maxHeartbeats 4000000
set_option linter.unusedVariables false
set_option linter.unusedSimpArgs false

theorem recG_get {l : List UInt8} {a n b : Nat} (hg : get l a = some (n, b)) : recG l a = if n + 4 ≤ l.length - b ∧ four (sumH 2166136261 ((l.drop b).take n)) = (l.drop (b + n)).take 4 then (opG ((l.drop b).take n)).map fun o => (o, b + n + 4) else none := by simp only [recG, hg]
def RrS (l : List UInt8) (q : List OpV × Nat) : SV → List Row → Prop := fun r Lo => r = .tup [(false, [.os (.v 0) 12 0 q.1.length]), (false, [cI q.2])] ∧ Lo = [.own 12 (q.1.map oD)]
theorem s_l13Read (l : List UInt8) (hl : l.length ≤ 1048576) : CallM Try.prog id_spec_l13Read [vY l] [] [] false (RrS l (recsG l 0)) := by
 refine F_spec_l13Read ?_
 try (conv => whnf)
 repeat (refine Pick.mk ?_ ?_ ?_; rotate_left; (focus ((simp only [chunks]; rfl))); conv => whnf)
 refine LoopE.mk (fun (x : List OpV × Nat) => mk [(0, vY l), (4, .one (.os (.v 8192) 12 0 x.1.length)), (5, vI .i64 x.2)] [(8192, .own 12 (x.1.map oD))])
  (fun x => (x.2 ≤ l.length ∧ x.1.length ≤ x.2) ∧ recsG l 0 = (x.1 ++ (recsG l x.2).1, (recsG l x.2).2)) (fun x => l.length - x.2) ([], 0) ⟨by simp, by simp⟩ (LeX.of ?_) ?_
 ·try (conv => whnf)
  repeat (refine Need.mk ?_ ?_; (focus (first | omega | (simp; done))); conv => whnf)
  trivial
 ·rintro ⟨out, at_⟩ ⟨⟨h1, h0⟩, h3⟩
  dsimp only at h0 h1 h3 ⊢
  try (conv => whnf)
  refine Hand.mk [] ?_
  try (conv => whnf)
  refine CallW.n (s_l01Get l at_ (by omega) (by omega)) ?_
  rintro _ _ ⟨v, b, ok, rfl, rfl, hg⟩
  cases hr : get l at_ with
  | none =>
   rw [hr] at hg
   dsimp only at hg
   subst hg
   have hR : recG l at_ = none := by rw [recG, hr]
   try (conv => whnf)
   repeat' (first
    | (refine SeqJ.thru ?_; conv => whnf)
    | (refine br_dec (fun _ => ?_) (fun _ => ?_) <;> first | (exfalso; omega) | contradiction | conv => whnf)
    | (refine br_not ?_; conv => whnf)
    | (refine br_bne (fun _ => ?_) (fun _ => ?_) <;> first | (exfalso; omega) | contradiction | conv => whnf)
    | (refine br_beq (fun _ => ?_) (fun _ => ?_) <;> first | (exfalso; omega) | contradiction | conv => whnf))
   have hend : out = (recsG l 0).1 ∧ at_ = (recsG l 0).2 := by rw [h3, recsG_none hR]; simp
   refine Out.mk false [0, 1, 2, 3, 4] [] ?_
   try (conv => whnf)
   exact ⟨⟨by rw [← hend.1, ← hend.2], by rw [← hend.1]⟩⟩
  | some r =>
   obtain ⟨n, c⟩ := r
   rw [hr] at hg
   obtain ⟨rfl, rfl, rfl⟩ := hg
   obtain ⟨g1, g2, g3, g4, g5⟩ := get_inv hr
   simp only [MaxN] at g4
   have hG := recG_get hr
   rcases Nat.lt_or_ge (l.length - c) (n + 4) with hlm | hlm
   ·have hR : recG l at_ = none := by rw [hG, if_neg (by omega)]
    try (conv => whnf)
    repeat' (first
     | (refine Pick.mk ?_ ?_ ?_; rotate_left; (focus (first | exact List.length_map _ | (refine wid ?_ ?_ <;> omega))); conv => whnf)
     | (refine SeqJ.thru ?_; conv => whnf)
     | (refine br_dec (fun _ => ?_) (fun _ => ?_) <;> first | (exfalso; omega) | contradiction | conv => whnf)
     | (refine br_not ?_; conv => whnf)
     | (refine br_bne (fun _ => ?_) (fun _ => ?_) <;> first | (exfalso; omega) | contradiction | conv => whnf)
     | (refine br_beq (fun _ => ?_) (fun _ => ?_) <;> first | (exfalso; omega) | contradiction | conv => whnf))
    have hend : out = (recsG l 0).1 ∧ at_ = (recsG l 0).2 := by rw [h3, recsG_none hR]; simp
    refine Out.mk false [0, 1, 2, 3, 4] [] ?_
    try (conv => whnf)
    exact ⟨⟨by rw [← hend.1, ← hend.2], by rw [← hend.1]⟩⟩
   ·try (conv => whnf)
    repeat' (first
     | (refine Need.mk ?_ ?_; (focus ((simp; done))); conv => whnf)
     | (refine Pick.mk ?_ ?_ ?_; rotate_left; (focus (first | with_reducible exact sl_map _ _ _ _ | (refine bnd_id ?_; omega) | exact List.length_map _ | (refine wid ?_ ?_ <;> omega))); conv => whnf)
     | (refine SeqJ.thru ?_; conv => whnf)
     | (refine br_dec (fun _ => ?_) (fun _ => ?_) <;> first | (exfalso; omega) | contradiction | conv => whnf)
     | (refine br_not ?_; conv => whnf)
     | (refine br_bne (fun _ => ?_) (fun _ => ?_) <;> first | (exfalso; omega) | contradiction | conv => whnf)
     | (refine br_beq (fun _ => ?_) (fun _ => ?_) <;> first | (exfalso; omega) | contradiction | conv => whnf))
    have hd : (l.take (c + n)).drop c = (l.drop c).take n := by rw [List.drop_take]; congr 1; omega
    have hd2 : (l.take (c + n + 4)).drop (c + n) = (l.drop (c + n)).take 4 := by rw [List.drop_take]; congr 1; omega
    rw [← hd, ← hd2] at hG
    have cO := s_l13Op ((l.take (c + n)).drop c) (by simp; omega)
    obtain ⟨B, hB⟩ : ∃ B, B = (l.take (c + n)).drop c := ⟨_, rfl⟩
    have hBl : B.length ≤ 1048576 := by rw [hB]; simp; omega
    have hs := sumH_lt (h := 2166136261) (by omega) B
    refine Hand.mk [] ?_
    try (conv => whnf)
    refine CallW.n (cO) ?_
    rintro _ _ ⟨o, g, rfl, rfl, ho⟩
    rw [← hB] at ho hG
    cases g with
    | false =>
     have hR : recG l at_ = none := by rw [hG, ho]; split <;> rfl
     try (conv => whnf)
     repeat' (first
      | (refine Need.mk ?_ ?_; (focus (((conv => whnf); (repeat (first | (refine Need.mk (by first | rfl | omega | (simp; done)) ?_; conv => whnf) | (refine Pick.mk ?_ ?_ ?_; rotate_left; (focus (first | with_reducible exact xor_u8 _ _ | (with_reducible refine xor_i64 ?_ ?_; all_goals omega) | (with_reducible refine xor_u32 ?_ ?_; all_goals omega) | exact map_snoc oD _ _ | assumption | with_reducible exact set_byN _ _ _ _ | with_reducible exact set_byI _ _ _ _ | with_reducible exact set_inN _ _ _ _ | with_reducible exact set_inI _ _ _ _ | with_reducible exact set_stN _ _ _ _ | with_reducible exact set_tsN _ _ _ _ | with_reducible exact set_tsI _ _ _ _ | with_reducible exact set_boN _ _ _ _ | with_reducible exact set_boI _ _ _ _ | (with_reducible refine get_mapN _ _ _ ?_; first | omega | (simp; omega)) | (with_reducible refine get_mapI _ _ _ ?_ ?_ <;> first | omega | (simp; omega)) | exact bs_beq _ _ | exact bs_less _ _ | exact bs_leq _ _ | with_reducible exact bs_app _ _ | (refine bs_get _ _ ?_; omega) | (refine bs_int _ _ ?_ ?_ <;> omega) | with_reducible exact sl_map0 _ _ _ | with_reducible exact sl_mapN _ _ _ | with_reducible exact sl_map _ _ _ _ | exact bs_extract0 _ _ | exact bs_extractN _ _ | exact bs_extract _ _ _ | (refine bnd_id ?_; omega) | (refine bnd_sub ?_ ?_ <;> omega) | (refine bnd_add ?_; omega) | (refine bnd_subN ?_ ?_ <;> omega) | (refine bnd_int ?_ ?_ <;> omega) | ((show @Eq Nat (_ + Int.toNat _ * _) _); simp only [Int.toNat_natCast, Nat.zero_add, Nat.mul_one]; rfl) | ((show @Eq (List _) (List.set [_] _ _) _); simp only [List.set_cons_zero]; rfl) | exact List.length_map _ | exact size_bs _ | (simp only [List.length_map, List.length_append, List.length_cons, List.length_nil, List.length_replicate, Nat.zero_add]; rfl) | with_reducible exact List.nil_append _ | with_reducible exact map_app _ _ _ | exact map_snoc byD _ _ | exact map_snoc inD _ _ | exact map_snoc stD _ _ | exact map_snoc tsD _ _ | (simp only [chunks]; rfl) | (refine wid ?_ ?_ <;> omega) | exact wby _ | with_reducible exact wby32 _ | with_reducible exact wu32 _ | exact wby64 _ | exact shr8 _ | exact shr16 _ | exact shr24 _ | exact shr32 _ | (refine tmodn ?_; omega) | (refine wdiv ?_ ?_ ?_ <;> omega) | exact wbyte _ | exact natlit _ | exact rep_by _ | exact rep_in _ | exact rep_bo _ | exact rep_st _ | (refine pick_nat _ _ _ ?_; omega) | (refine pick_int _ _ _ ?_ ?_ <;> omega) | (refine SlOf.full ?_; first | (simp; done) | (simp; omega)) | (with_reducible refine SlOf.pre _ _ ?_; first | omega | (simp; omega)) | (refine SlF.self _ _ ?_ ?_; (first | rfl | omega | (simp; done) | (simp; omega)); (exact fun _ => rfl)) | (refine SlF.pre _ _ ?_ ?_; (first | omega | (simp; omega)); (exact fun _ => rfl)) | (refine SlF.same ?_ ?_; (first | rfl | omega | (simp; done) | (simp; omega)); (first | exact fz_self _ _ (fun _ => rfl) | exact fz_pl rfl | (refine Fz.append ?_ ?_ <;> first | exact fz_self _ _ (fun _ => rfl) | exact fz_pl rfl) | (refine Fz.append (Fz.append ?_ ?_) ?_ <;> first | exact fz_self _ _ (fun _ => rfl) | exact fz_pl rfl))) | (simp only [Int.toNat_natCast, Nat.zero_add, Nat.mul_one]; rfl) | ((show @Eq (Option CV) _ _); rfl) | ((fail_if_success (show @Eq (Option _) _ _)); rfl) | ((show @Eq (Option _) _ _); simp only [List.getElem?_cons_zero, List.getElem?_cons_succ]; done) | ((show @Eq (Option _) _ _); simp only [List.getElem?_cons_zero, List.getElem?_cons_succ]; rfl) | with_reducible rfl)); conv => whnf))); exact Done.mk trivial))); conv => whnf)
      | (refine SeqJ.thru ?_; conv => whnf)
      | (refine br_dec (fun _ => ?_) (fun _ => ?_) <;> first | (exfalso; omega) | contradiction | conv => whnf)
      | (refine br_not ?_; conv => whnf)
      | (refine br_bne (fun _ => ?_) (fun _ => ?_) <;> first | (exfalso; omega) | contradiction | conv => whnf)
      | (refine br_beq (fun _ => ?_) (fun _ => ?_) <;> first | (exfalso; omega) | contradiction | conv => whnf))
     have hend : out = (recsG l 0).1 ∧ at_ = (recsG l 0).2 := by rw [h3, recsG_none hR]; simp
     refine Out.mk false [0, 1, 2, 3, 4] [] ?_
     try (conv => whnf)
     exact ⟨⟨by rw [← hend.1, ← hend.2], by rw [← hend.1]⟩⟩
    | true =>
     have ho' : opG B = some o := ho
     by_cases he : four (sumH 2166136261 B) = (l.take (c + n + 4)).drop (c + n)
     ·have hR : recG l at_ = some (o, c + n + 4) := by rw [hG, if_pos ⟨by omega, he⟩, ho']; rfl
      have cS1 := s_Sum32 B hBl
      rw [hB] at cS1 hs he
      try (conv => whnf)
      repeat' (first
       | (refine Need.mk ?_ ?_; (focus ((simp; done))); conv => whnf)
       | (refine Pick.mk ?_ ?_ ?_; rotate_left; (focus (first | with_reducible exact sl_map _ _ _ _ | (refine bnd_id ?_; omega) | (refine bnd_int ?_ ?_ <;> omega) | exact List.length_map _ | (refine wid ?_ ?_ <;> omega) | ((fail_if_success (show @Eq (Option _) _ _)); rfl))); conv => whnf)
       | (refine SeqJ.thru ?_; conv => whnf)
       | (refine br_dec (fun _ => ?_) (fun _ => ?_) <;> first | (exfalso; omega) | contradiction | conv => whnf)
       | (refine br_not ?_; conv => whnf)
       | (refine br_bne (fun _ => ?_) (fun _ => ?_) <;> first | (exfalso; omega) | contradiction | conv => whnf)
       | (refine br_beq (fun _ => ?_) (fun _ => ?_) <;> first | (exfalso; omega) | contradiction | conv => whnf))
      refine Hand.mk [] ?_
      try (conv => whnf)
      refine CallW.d (cS1) ?_
      try (conv => whnf)
      repeat (refine Need.mk ?_ ?_; (focus (((conv => whnf); (repeat (first | (refine Need.mk (by first | rfl | omega | (simp; done)) ?_; conv => whnf) | (refine Pick.mk ?_ ?_ ?_; rotate_left; (focus (first | with_reducible exact xor_u8 _ _ | (with_reducible refine xor_i64 ?_ ?_; all_goals omega) | (with_reducible refine xor_u32 ?_ ?_; all_goals omega) | exact map_snoc oD _ _ | assumption | with_reducible exact set_byN _ _ _ _ | with_reducible exact set_byI _ _ _ _ | with_reducible exact set_inN _ _ _ _ | with_reducible exact set_inI _ _ _ _ | with_reducible exact set_stN _ _ _ _ | with_reducible exact set_tsN _ _ _ _ | with_reducible exact set_tsI _ _ _ _ | with_reducible exact set_boN _ _ _ _ | with_reducible exact set_boI _ _ _ _ | (with_reducible refine get_mapN _ _ _ ?_; first | omega | (simp; omega)) | (with_reducible refine get_mapI _ _ _ ?_ ?_ <;> first | omega | (simp; omega)) | exact bs_beq _ _ | exact bs_less _ _ | exact bs_leq _ _ | with_reducible exact bs_app _ _ | (refine bs_get _ _ ?_; omega) | (refine bs_int _ _ ?_ ?_ <;> omega) | with_reducible exact sl_map0 _ _ _ | with_reducible exact sl_mapN _ _ _ | with_reducible exact sl_map _ _ _ _ | exact bs_extract0 _ _ | exact bs_extractN _ _ | exact bs_extract _ _ _ | (refine bnd_id ?_; omega) | (refine bnd_sub ?_ ?_ <;> omega) | (refine bnd_add ?_; omega) | (refine bnd_subN ?_ ?_ <;> omega) | (refine bnd_int ?_ ?_ <;> omega) | ((show @Eq Nat (_ + Int.toNat _ * _) _); simp only [Int.toNat_natCast, Nat.zero_add, Nat.mul_one]; rfl) | ((show @Eq (List _) (List.set [_] _ _) _); simp only [List.set_cons_zero]; rfl) | exact List.length_map _ | exact size_bs _ | (simp only [List.length_map, List.length_append, List.length_cons, List.length_nil, List.length_replicate, Nat.zero_add]; rfl) | with_reducible exact List.nil_append _ | with_reducible exact map_app _ _ _ | exact map_snoc byD _ _ | exact map_snoc inD _ _ | exact map_snoc stD _ _ | exact map_snoc tsD _ _ | (simp only [chunks]; rfl) | (refine wid ?_ ?_ <;> omega) | exact wby _ | with_reducible exact wby32 _ | with_reducible exact wu32 _ | exact wby64 _ | exact shr8 _ | exact shr16 _ | exact shr24 _ | exact shr32 _ | (refine tmodn ?_; omega) | (refine wdiv ?_ ?_ ?_ <;> omega) | exact wbyte _ | exact natlit _ | exact rep_by _ | exact rep_in _ | exact rep_bo _ | exact rep_st _ | (refine pick_nat _ _ _ ?_; omega) | (refine pick_int _ _ _ ?_ ?_ <;> omega) | (refine SlOf.full ?_; first | (simp; done) | (simp; omega)) | (with_reducible refine SlOf.pre _ _ ?_; first | omega | (simp; omega)) | (refine SlF.self _ _ ?_ ?_; (first | rfl | omega | (simp; done) | (simp; omega)); (exact fun _ => rfl)) | (refine SlF.pre _ _ ?_ ?_; (first | omega | (simp; omega)); (exact fun _ => rfl)) | (refine SlF.same ?_ ?_; (first | rfl | omega | (simp; done) | (simp; omega)); (first | exact fz_self _ _ (fun _ => rfl) | exact fz_pl rfl | (refine Fz.append ?_ ?_ <;> first | exact fz_self _ _ (fun _ => rfl) | exact fz_pl rfl) | (refine Fz.append (Fz.append ?_ ?_) ?_ <;> first | exact fz_self _ _ (fun _ => rfl) | exact fz_pl rfl))) | (simp only [Int.toNat_natCast, Nat.zero_add, Nat.mul_one]; rfl) | ((show @Eq (Option CV) _ _); rfl) | ((fail_if_success (show @Eq (Option _) _ _)); rfl) | ((show @Eq (Option _) _ _); simp only [List.getElem?_cons_zero, List.getElem?_cons_succ]; done) | ((show @Eq (Option _) _ _); simp only [List.getElem?_cons_zero, List.getElem?_cons_succ]; rfl) | with_reducible rfl)); conv => whnf))); exact Done.mk trivial))); conv => whnf)
      refine Hand.mk [] ?_
      try (conv => whnf)
      refine CallW.d (s_l01Four _ (by omega) (by omega)) ?_
      try (conv => whnf)
      repeat (first
       | (refine Need.mk ?_ ?_; (focus (((conv => whnf); (repeat (first | (refine Need.mk (by first | rfl | omega | (simp; done)) ?_; conv => whnf) | (refine Pick.mk ?_ ?_ ?_; rotate_left; (focus (first | with_reducible exact xor_u8 _ _ | (with_reducible refine xor_i64 ?_ ?_; all_goals omega) | (with_reducible refine xor_u32 ?_ ?_; all_goals omega) | exact map_snoc oD _ _ | assumption | with_reducible exact set_byN _ _ _ _ | with_reducible exact set_byI _ _ _ _ | with_reducible exact set_inN _ _ _ _ | with_reducible exact set_inI _ _ _ _ | with_reducible exact set_stN _ _ _ _ | with_reducible exact set_tsN _ _ _ _ | with_reducible exact set_tsI _ _ _ _ | with_reducible exact set_boN _ _ _ _ | with_reducible exact set_boI _ _ _ _ | (with_reducible refine get_mapN _ _ _ ?_; first | omega | (simp; omega)) | (with_reducible refine get_mapI _ _ _ ?_ ?_ <;> first | omega | (simp; omega)) | exact bs_beq _ _ | exact bs_less _ _ | exact bs_leq _ _ | with_reducible exact bs_app _ _ | (refine bs_get _ _ ?_; omega) | (refine bs_int _ _ ?_ ?_ <;> omega) | with_reducible exact sl_map0 _ _ _ | with_reducible exact sl_mapN _ _ _ | with_reducible exact sl_map _ _ _ _ | exact bs_extract0 _ _ | exact bs_extractN _ _ | exact bs_extract _ _ _ | (refine bnd_id ?_; omega) | (refine bnd_sub ?_ ?_ <;> omega) | (refine bnd_add ?_; omega) | (refine bnd_subN ?_ ?_ <;> omega) | (refine bnd_int ?_ ?_ <;> omega) | ((show @Eq Nat (_ + Int.toNat _ * _) _); simp only [Int.toNat_natCast, Nat.zero_add, Nat.mul_one]; rfl) | ((show @Eq (List _) (List.set [_] _ _) _); simp only [List.set_cons_zero]; rfl) | exact List.length_map _ | exact size_bs _ | (simp only [List.length_map, List.length_append, List.length_cons, List.length_nil, List.length_replicate, Nat.zero_add]; rfl) | with_reducible exact List.nil_append _ | with_reducible exact map_app _ _ _ | exact map_snoc byD _ _ | exact map_snoc inD _ _ | exact map_snoc stD _ _ | exact map_snoc tsD _ _ | (simp only [chunks]; rfl) | (refine wid ?_ ?_ <;> omega) | exact wby _ | with_reducible exact wby32 _ | with_reducible exact wu32 _ | exact wby64 _ | exact shr8 _ | exact shr16 _ | exact shr24 _ | exact shr32 _ | (refine tmodn ?_; omega) | (refine wdiv ?_ ?_ ?_ <;> omega) | exact wbyte _ | exact natlit _ | exact rep_by _ | exact rep_in _ | exact rep_bo _ | exact rep_st _ | (refine pick_nat _ _ _ ?_; omega) | (refine pick_int _ _ _ ?_ ?_ <;> omega) | (refine SlOf.full ?_; first | (simp; done) | (simp; omega)) | (with_reducible refine SlOf.pre _ _ ?_; first | omega | (simp; omega)) | (refine SlF.self _ _ ?_ ?_; (first | rfl | omega | (simp; done) | (simp; omega)); (exact fun _ => rfl)) | (refine SlF.pre _ _ ?_ ?_; (first | omega | (simp; omega)); (exact fun _ => rfl)) | (refine SlF.same ?_ ?_; (first | rfl | omega | (simp; done) | (simp; omega)); (first | exact fz_self _ _ (fun _ => rfl) | exact fz_pl rfl | (refine Fz.append ?_ ?_ <;> first | exact fz_self _ _ (fun _ => rfl) | exact fz_pl rfl) | (refine Fz.append (Fz.append ?_ ?_) ?_ <;> first | exact fz_self _ _ (fun _ => rfl) | exact fz_pl rfl))) | (simp only [Int.toNat_natCast, Nat.zero_add, Nat.mul_one]; rfl) | ((show @Eq (Option CV) _ _); rfl) | ((fail_if_success (show @Eq (Option _) _ _)); rfl) | ((show @Eq (Option _) _ _); simp only [List.getElem?_cons_zero, List.getElem?_cons_succ]; done) | ((show @Eq (Option _) _ _); simp only [List.getElem?_cons_zero, List.getElem?_cons_succ]; rfl) | with_reducible rfl)); conv => whnf))); exact Done.mk trivial))); conv => whnf)
       | (refine Pick.mk ?_ ?_ ?_; rotate_left; (focus (first | exact bs_beq _ _ | (refine SlOf.full ?_; first | (simp; done) | (simp; omega)))); conv => whnf))
      try (conv => whnf)
      repeat' (first
       | (refine Need.mk ?_ ?_; (focus ((simp only [List.length_map, List.length_append, List.length_cons, List.length_nil, List.length_replicate]; omega))); conv => whnf)
       | (refine Pick.mk ?_ ?_ ?_; rotate_left; (focus (first | exact map_snoc oD _ _ | (simp only [List.length_map, List.length_append, List.length_cons, List.length_nil, List.length_replicate, Nat.zero_add]; rfl) | (simp only [chunks]; rfl) | (refine wid ?_ ?_ <;> omega) | (refine SlOf.full ?_; first | (simp; done) | (simp; omega)))); conv => whnf)
       | (refine br_dec (fun _ => ?_) (fun _ => ?_) <;> first | (exfalso; omega) | contradiction | conv => whnf)
       | (refine br_not ?_; conv => whnf)
       | (refine br_bne (fun _ => ?_) (fun _ => ?_) <;> first | (exfalso; omega) | contradiction | conv => whnf)
       | (refine br_beq (fun _ => ?_) (fun _ => ?_) <;> first | (exfalso; omega) | contradiction | conv => whnf))
      have hlt := recG_lt hR
      refine Pick.mk (out ++ [o], c + n + 4) ⟨⟨⟨by dsimp only; omega, by simp; omega⟩, by rw [h3, recsG_some hR]; simp⟩, by dsimp only; omega⟩ (LeX.of ?_)
      try (conv => whnf)
      repeat (refine Need.mk ?_ ?_; (focus (first | omega | (simp; done))); conv => whnf)
      trivial
     ·have hR : recG l at_ = none := by rw [hG, if_neg (fun g => he g.2)]
      have cS1 := s_Sum32 B hBl
      rw [hB] at cS1 hs he
      try (conv => whnf)
      repeat' (first
       | (refine Need.mk ?_ ?_; (focus ((simp; done))); conv => whnf)
       | (refine Pick.mk ?_ ?_ ?_; rotate_left; (focus (first | with_reducible exact sl_map _ _ _ _ | (refine bnd_id ?_; omega) | (refine bnd_int ?_ ?_ <;> omega) | exact List.length_map _ | (refine wid ?_ ?_ <;> omega) | ((fail_if_success (show @Eq (Option _) _ _)); rfl))); conv => whnf)
       | (refine SeqJ.thru ?_; conv => whnf)
       | (refine br_dec (fun _ => ?_) (fun _ => ?_) <;> first | (exfalso; omega) | contradiction | conv => whnf)
       | (refine br_not ?_; conv => whnf)
       | (refine br_bne (fun _ => ?_) (fun _ => ?_) <;> first | (exfalso; omega) | contradiction | conv => whnf)
       | (refine br_beq (fun _ => ?_) (fun _ => ?_) <;> first | (exfalso; omega) | contradiction | conv => whnf))
      refine Hand.mk [] ?_
      try (conv => whnf)
      refine CallW.d (cS1) ?_
      try (conv => whnf)
      repeat (refine Need.mk ?_ ?_; (focus (((conv => whnf); (repeat (first | (refine Need.mk (by first | rfl | omega | (simp; done)) ?_; conv => whnf) | (refine Pick.mk ?_ ?_ ?_; rotate_left; (focus (first | with_reducible exact xor_u8 _ _ | (with_reducible refine xor_i64 ?_ ?_; all_goals omega) | (with_reducible refine xor_u32 ?_ ?_; all_goals omega) | exact map_snoc oD _ _ | assumption | with_reducible exact set_byN _ _ _ _ | with_reducible exact set_byI _ _ _ _ | with_reducible exact set_inN _ _ _ _ | with_reducible exact set_inI _ _ _ _ | with_reducible exact set_stN _ _ _ _ | with_reducible exact set_tsN _ _ _ _ | with_reducible exact set_tsI _ _ _ _ | with_reducible exact set_boN _ _ _ _ | with_reducible exact set_boI _ _ _ _ | (with_reducible refine get_mapN _ _ _ ?_; first | omega | (simp; omega)) | (with_reducible refine get_mapI _ _ _ ?_ ?_ <;> first | omega | (simp; omega)) | exact bs_beq _ _ | exact bs_less _ _ | exact bs_leq _ _ | with_reducible exact bs_app _ _ | (refine bs_get _ _ ?_; omega) | (refine bs_int _ _ ?_ ?_ <;> omega) | with_reducible exact sl_map0 _ _ _ | with_reducible exact sl_mapN _ _ _ | with_reducible exact sl_map _ _ _ _ | exact bs_extract0 _ _ | exact bs_extractN _ _ | exact bs_extract _ _ _ | (refine bnd_id ?_; omega) | (refine bnd_sub ?_ ?_ <;> omega) | (refine bnd_add ?_; omega) | (refine bnd_subN ?_ ?_ <;> omega) | (refine bnd_int ?_ ?_ <;> omega) | ((show @Eq Nat (_ + Int.toNat _ * _) _); simp only [Int.toNat_natCast, Nat.zero_add, Nat.mul_one]; rfl) | ((show @Eq (List _) (List.set [_] _ _) _); simp only [List.set_cons_zero]; rfl) | exact List.length_map _ | exact size_bs _ | (simp only [List.length_map, List.length_append, List.length_cons, List.length_nil, List.length_replicate, Nat.zero_add]; rfl) | with_reducible exact List.nil_append _ | with_reducible exact map_app _ _ _ | exact map_snoc byD _ _ | exact map_snoc inD _ _ | exact map_snoc stD _ _ | exact map_snoc tsD _ _ | (simp only [chunks]; rfl) | (refine wid ?_ ?_ <;> omega) | exact wby _ | with_reducible exact wby32 _ | with_reducible exact wu32 _ | exact wby64 _ | exact shr8 _ | exact shr16 _ | exact shr24 _ | exact shr32 _ | (refine tmodn ?_; omega) | (refine wdiv ?_ ?_ ?_ <;> omega) | exact wbyte _ | exact natlit _ | exact rep_by _ | exact rep_in _ | exact rep_bo _ | exact rep_st _ | (refine pick_nat _ _ _ ?_; omega) | (refine pick_int _ _ _ ?_ ?_ <;> omega) | (refine SlOf.full ?_; first | (simp; done) | (simp; omega)) | (with_reducible refine SlOf.pre _ _ ?_; first | omega | (simp; omega)) | (refine SlF.self _ _ ?_ ?_; (first | rfl | omega | (simp; done) | (simp; omega)); (exact fun _ => rfl)) | (refine SlF.pre _ _ ?_ ?_; (first | omega | (simp; omega)); (exact fun _ => rfl)) | (refine SlF.same ?_ ?_; (first | rfl | omega | (simp; done) | (simp; omega)); (first | exact fz_self _ _ (fun _ => rfl) | exact fz_pl rfl | (refine Fz.append ?_ ?_ <;> first | exact fz_self _ _ (fun _ => rfl) | exact fz_pl rfl) | (refine Fz.append (Fz.append ?_ ?_) ?_ <;> first | exact fz_self _ _ (fun _ => rfl) | exact fz_pl rfl))) | (simp only [Int.toNat_natCast, Nat.zero_add, Nat.mul_one]; rfl) | ((show @Eq (Option CV) _ _); rfl) | ((fail_if_success (show @Eq (Option _) _ _)); rfl) | ((show @Eq (Option _) _ _); simp only [List.getElem?_cons_zero, List.getElem?_cons_succ]; done) | ((show @Eq (Option _) _ _); simp only [List.getElem?_cons_zero, List.getElem?_cons_succ]; rfl) | with_reducible rfl)); conv => whnf))); exact Done.mk trivial))); conv => whnf)
      refine Hand.mk [] ?_
      try (conv => whnf)
      refine CallW.d (s_l01Four _ (by omega) (by omega)) ?_
      try (conv => whnf)
      repeat (first
       | (refine Need.mk ?_ ?_; (focus (((conv => whnf); (repeat (first | (refine Need.mk (by first | rfl | omega | (simp; done)) ?_; conv => whnf) | (refine Pick.mk ?_ ?_ ?_; rotate_left; (focus (first | with_reducible exact xor_u8 _ _ | (with_reducible refine xor_i64 ?_ ?_; all_goals omega) | (with_reducible refine xor_u32 ?_ ?_; all_goals omega) | exact map_snoc oD _ _ | assumption | with_reducible exact set_byN _ _ _ _ | with_reducible exact set_byI _ _ _ _ | with_reducible exact set_inN _ _ _ _ | with_reducible exact set_inI _ _ _ _ | with_reducible exact set_stN _ _ _ _ | with_reducible exact set_tsN _ _ _ _ | with_reducible exact set_tsI _ _ _ _ | with_reducible exact set_boN _ _ _ _ | with_reducible exact set_boI _ _ _ _ | (with_reducible refine get_mapN _ _ _ ?_; first | omega | (simp; omega)) | (with_reducible refine get_mapI _ _ _ ?_ ?_ <;> first | omega | (simp; omega)) | exact bs_beq _ _ | exact bs_less _ _ | exact bs_leq _ _ | with_reducible exact bs_app _ _ | (refine bs_get _ _ ?_; omega) | (refine bs_int _ _ ?_ ?_ <;> omega) | with_reducible exact sl_map0 _ _ _ | with_reducible exact sl_mapN _ _ _ | with_reducible exact sl_map _ _ _ _ | exact bs_extract0 _ _ | exact bs_extractN _ _ | exact bs_extract _ _ _ | (refine bnd_id ?_; omega) | (refine bnd_sub ?_ ?_ <;> omega) | (refine bnd_add ?_; omega) | (refine bnd_subN ?_ ?_ <;> omega) | (refine bnd_int ?_ ?_ <;> omega) | ((show @Eq Nat (_ + Int.toNat _ * _) _); simp only [Int.toNat_natCast, Nat.zero_add, Nat.mul_one]; rfl) | ((show @Eq (List _) (List.set [_] _ _) _); simp only [List.set_cons_zero]; rfl) | exact List.length_map _ | exact size_bs _ | (simp only [List.length_map, List.length_append, List.length_cons, List.length_nil, List.length_replicate, Nat.zero_add]; rfl) | with_reducible exact List.nil_append _ | with_reducible exact map_app _ _ _ | exact map_snoc byD _ _ | exact map_snoc inD _ _ | exact map_snoc stD _ _ | exact map_snoc tsD _ _ | (simp only [chunks]; rfl) | (refine wid ?_ ?_ <;> omega) | exact wby _ | with_reducible exact wby32 _ | with_reducible exact wu32 _ | exact wby64 _ | exact shr8 _ | exact shr16 _ | exact shr24 _ | exact shr32 _ | (refine tmodn ?_; omega) | (refine wdiv ?_ ?_ ?_ <;> omega) | exact wbyte _ | exact natlit _ | exact rep_by _ | exact rep_in _ | exact rep_bo _ | exact rep_st _ | (refine pick_nat _ _ _ ?_; omega) | (refine pick_int _ _ _ ?_ ?_ <;> omega) | (refine SlOf.full ?_; first | (simp; done) | (simp; omega)) | (with_reducible refine SlOf.pre _ _ ?_; first | omega | (simp; omega)) | (refine SlF.self _ _ ?_ ?_; (first | rfl | omega | (simp; done) | (simp; omega)); (exact fun _ => rfl)) | (refine SlF.pre _ _ ?_ ?_; (first | omega | (simp; omega)); (exact fun _ => rfl)) | (refine SlF.same ?_ ?_; (first | rfl | omega | (simp; done) | (simp; omega)); (first | exact fz_self _ _ (fun _ => rfl) | exact fz_pl rfl | (refine Fz.append ?_ ?_ <;> first | exact fz_self _ _ (fun _ => rfl) | exact fz_pl rfl) | (refine Fz.append (Fz.append ?_ ?_) ?_ <;> first | exact fz_self _ _ (fun _ => rfl) | exact fz_pl rfl))) | (simp only [Int.toNat_natCast, Nat.zero_add, Nat.mul_one]; rfl) | ((show @Eq (Option CV) _ _); rfl) | ((fail_if_success (show @Eq (Option _) _ _)); rfl) | ((show @Eq (Option _) _ _); simp only [List.getElem?_cons_zero, List.getElem?_cons_succ]; done) | ((show @Eq (Option _) _ _); simp only [List.getElem?_cons_zero, List.getElem?_cons_succ]; rfl) | with_reducible rfl)); conv => whnf))); exact Done.mk trivial))); conv => whnf)
       | (refine Pick.mk ?_ ?_ ?_; rotate_left; (focus (first | exact bs_beq _ _ | (refine SlOf.full ?_; first | (simp; done) | (simp; omega)))); conv => whnf))
      try (conv => whnf)
      repeat' (first
       | (refine br_dec (fun _ => ?_) (fun _ => ?_) <;> first | (exfalso; omega) | contradiction | conv => whnf)
       | (refine br_not ?_; conv => whnf)
       | (refine br_bne (fun _ => ?_) (fun _ => ?_) <;> first | (exfalso; omega) | contradiction | conv => whnf)
       | (refine br_beq (fun _ => ?_) (fun _ => ?_) <;> first | (exfalso; omega) | contradiction | conv => whnf))
      have hend : out = (recsG l 0).1 ∧ at_ = (recsG l 0).2 := by rw [h3, recsG_none hR]; simp
      refine Out.mk false [0, 1, 2, 3, 4] [] ?_
      try (conv => whnf)
      exact ⟨⟨by rw [← hend.1, ← hend.2], by rw [← hend.1]⟩⟩
theorem s_ReadRecords (l : List UInt8) (hl : l.length ≤ 2 ^ 47) : CallM Try.prog id_spec_ReadRecords [vY l] [] [] false fun r Lo =>
  r = .tup [(false, [.os (.v 0) 12 0 (rrL l).length]), (false, [cI (rrN l)]), (false, [cI (rrC l)])] ∧ Lo = [.own 12 ((rrL l).map oD)] := by
 refine F_spec_ReadRecords ?_
 try (conv => whnf)
 repeat' (first
  | (refine Pick.mk ?_ ?_ ?_; rotate_left; (focus (first | exact List.length_map _ | (simp only [chunks]; rfl))); conv => whnf)
  | (refine SeqJ.thru ?_; conv => whnf)
  | (refine br_dec (fun _ => ?_) (fun _ => ?_) <;> first | (exfalso; omega) | contradiction | conv => whnf)
  | (refine br_not ?_; conv => whnf)
  | (refine br_bne (fun _ => ?_) (fun _ => ?_) <;> first | (exfalso; omega) | contradiction | conv => whnf)
  | (refine br_beq (fun _ => ?_) (fun _ => ?_) <;> first | (exfalso; omega) | contradiction | conv => whnf))
 ·refine Out.mk false [0, 1, 2, 3, 4] [] ?_
  try (conv => whnf)
  exact ⟨⟨by rw [rrL, rrN, rrC, if_pos (by omega), if_pos (by omega), if_pos (by omega)]; rfl, by rw [rrL, if_pos (by omega)]; rfl⟩⟩
 ·have c1 := s_l13Read l (by omega)
  have e1 : rrL l = (recsG l 0).1 := by rw [rrL, if_neg (by omega)]
  have e2 : rrN l = (recsG l 0).2 := by rw [rrN, if_neg (by omega)]
  have e3 : rrC l = 0 := by rw [rrC, if_neg (by omega)]
  obtain ⟨q, hq⟩ : ∃ q, q = recsG l 0 := ⟨_, rfl⟩
  rw [← hq] at c1 e1 e2
  refine Hand.mk [] ?_
  try (conv => whnf)
  refine CallW.n (c1) ?_
  rintro _ _ ⟨rfl, rfl⟩
  try (conv => whnf)
  refine Out.mk false [0, 1, 2, 3, 4] [] ?_
  try (conv => whnf)
  exact ⟨⟨by rw [e1, e2, e3], by rw [e1]⟩⟩
end Go.Proofs.Ytpdjehnlejjfmaa.D
