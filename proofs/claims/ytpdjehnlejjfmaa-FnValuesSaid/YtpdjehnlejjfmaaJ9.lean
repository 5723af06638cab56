/- Drawn sets and registers of several; what joining them keeps. -/
import Derived.WalkKit
import Derived.ProofKit
import Derived.OpenShut
import Derived.ShutString
import Derived.ChangeOld
import Derived.Below
import Derived.SizedLaws
import Derived.ChangeSlices
import Derived.SliceStrings
import Derived.Test.YtpdjehnlejjfmaaJ8
set_option linter.unusedVariables false
set_option linter.unusedSimpArgs false
namespace Go.Proofs.Ytpdjehnlejjfmaa.D
open Go.RowKit
set_option maxRecDepth 100000
set_option maxHeartbeats 4000000
set_option linter.unusedVariables false
set_option linter.unusedSimpArgs false

theorem s_l03DrawSet (code : List UInt8) (hc : code.length ≤ 2 ^ 40) : CallM Try.prog id_spec_l03DrawSet [vY code] [] [] false fun r Lo => ∃ (A : List Int) (a : List EntV) (B : List Int) (b : List EntV) (x y : Int), Lo = [srcR code x y] ∧ r = .tup [(true, [cN A, cE a]), (true, [cN B, cE b]), (false, [.ptr 0 0])] ∧ EntsX a ∧ EntsX b := by
 refine F_spec_l03DrawSet ?_
 try (conv => whnf)
 refine Hand.mk [] ?_
 try (conv => whnf)
 refine CallW.n (s_l01Source code hc) ?_
 rintro _ _ ⟨s0, rfl, rfl, hS0⟩
 try (conv => whnf)
 refine Hand.mk [] ?_
 try (conv => whnf)
 refine CallW.n (s_l03Draw hS0 (by omega) true) ?_
 rintro _ _ ⟨a1, s1, _, rfl, hS1, A, a, B, b, rfl, rfl, ha, hb⟩
 try (conv => whnf)
 repeat (refine Need.mk ?_ ?_; (focus (((conv => whnf); (repeat (first | (refine Need.mk (by first | rfl | omega | (simp; done)) ?_; conv => whnf) | (refine Pick.mk ?_ ?_ ?_; rotate_left; (focus (first | with_reducible exact xor_u8 _ _ | (with_reducible refine xor_i64 ?_ ?_; all_goals omega) | (with_reducible refine xor_u32 ?_ ?_; all_goals omega) | assumption | with_reducible exact set_byN _ _ _ _ | with_reducible exact set_byI _ _ _ _ | with_reducible exact set_inN _ _ _ _ | with_reducible exact set_inI _ _ _ _ | with_reducible exact set_stN _ _ _ _ | with_reducible exact set_tsN _ _ _ _ | with_reducible exact set_tsI _ _ _ _ | with_reducible exact set_boN _ _ _ _ | with_reducible exact set_boI _ _ _ _ | (with_reducible refine get_mapN _ _ _ ?_; first | omega | (simp; omega)) | (with_reducible refine get_mapI _ _ _ ?_ ?_ <;> first | omega | (simp; omega)) | exact bs_beq _ _ | exact bs_less _ _ | exact bs_leq _ _ | with_reducible exact bs_app _ _ | (refine bs_get _ _ ?_; omega) | (refine bs_int _ _ ?_ ?_ <;> omega) | with_reducible exact sl_map0 _ _ _ | with_reducible exact sl_mapN _ _ _ | with_reducible exact sl_map _ _ _ _ | exact bs_extract0 _ _ | exact bs_extractN _ _ | exact bs_extract _ _ _ | (refine bnd_id ?_; omega) | (refine bnd_sub ?_ ?_ <;> omega) | (refine bnd_add ?_; omega) | (refine bnd_subN ?_ ?_ <;> omega) | (refine bnd_int ?_ ?_ <;> omega) | ((show @Eq Nat (_ + Int.toNat _ * _) _); simp only [Int.toNat_natCast, Nat.zero_add, Nat.mul_one]; rfl) | ((show @Eq (List _) (List.set [_] _ _) _); simp only [List.set_cons_zero]; rfl) | exact List.length_map _ | exact size_bs _ | (simp only [List.length_map, List.length_append, List.length_cons, List.length_nil, List.length_replicate, Nat.zero_add]; rfl) | with_reducible exact List.nil_append _ | with_reducible exact map_app _ _ _ | exact map_snoc byD _ _ | exact map_snoc inD _ _ | exact map_snoc stD _ _ | exact map_snoc tsD _ _ | (simp only [chunks]; rfl) | (refine wid ?_ ?_ <;> omega) | exact wby _ | with_reducible exact wby32 _ | with_reducible exact wu32 _ | exact wby64 _ | exact shr8 _ | exact shr16 _ | exact shr24 _ | exact shr32 _ | (refine tmodn ?_; omega) | (refine wdiv ?_ ?_ ?_ <;> omega) | exact wbyte _ | exact natlit _ | exact rep_by _ | exact rep_in _ | exact rep_bo _ | exact rep_st _ | (refine pick_nat _ _ _ ?_; omega) | (refine pick_int _ _ _ ?_ ?_ <;> omega) | (refine SlOf.full ?_; first | (simp; done) | (simp; omega)) | (with_reducible refine SlOf.pre _ _ ?_; first | omega | (simp; omega)) | (refine SlF.self _ _ ?_ ?_; (first | rfl | omega | (simp; done) | (simp; omega)); (exact fun _ => rfl)) | (refine SlF.pre _ _ ?_ ?_; (first | omega | (simp; omega)); (exact fun _ => rfl)) | (refine SlF.same ?_ ?_; (first | rfl | omega | (simp; done) | (simp; omega)); (first | exact fz_self _ _ (fun _ => rfl) | exact fz_pl rfl | (refine Fz.append ?_ ?_ <;> first | exact fz_self _ _ (fun _ => rfl) | exact fz_pl rfl) | (refine Fz.append (Fz.append ?_ ?_) ?_ <;> first | exact fz_self _ _ (fun _ => rfl) | exact fz_pl rfl))) | (simp only [Int.toNat_natCast, Nat.zero_add, Nat.mul_one]; rfl) | ((show @Eq (Option CV) _ _); rfl) | ((fail_if_success (show @Eq (Option _) _ _)); rfl) | ((show @Eq (Option _) _ _); simp only [List.getElem?_cons_zero, List.getElem?_cons_succ]; done) | ((show @Eq (Option _) _ _); simp only [List.getElem?_cons_zero, List.getElem?_cons_succ]; rfl) | with_reducible rfl)); conv => whnf))); exact Done.mk trivial))); conv => whnf)
 refine Out.mk false [0, 1, 2, 3, 4] [] ?_
 try (conv => whnf)
 exact ⟨⟨A, a, B, b, _, _, rfl, rfl, ha, hb⟩⟩
theorem s_DrawSetJoin (code : List UInt8) (hc : code.length ≤ 2 ^ 40) : CallM Try.prog id_spec_DrawSetJoin [vY code] [] [] false TwoP := by
 refine F_spec_DrawSetJoin ?_
 try (conv => whnf)
 refine Hand.mk [] ?_
 try (conv => whnf)
 refine CallW.n (s_l03DrawSet code hc) ?_
 rintro _ _ ⟨A, a, B, b, x, y, rfl, rfl, ha, hb⟩
 try (conv => whnf)
 repeat (refine Need.mk ?_ ?_; (focus (((conv => whnf); (repeat (first | (refine Need.mk (by first | rfl | omega | (simp; done)) ?_; conv => whnf) | (refine Pick.mk ?_ ?_ ?_; rotate_left; (focus (first | with_reducible exact xor_u8 _ _ | (with_reducible refine xor_i64 ?_ ?_; all_goals omega) | (with_reducible refine xor_u32 ?_ ?_; all_goals omega) | assumption | with_reducible exact set_byN _ _ _ _ | with_reducible exact set_byI _ _ _ _ | with_reducible exact set_inN _ _ _ _ | with_reducible exact set_inI _ _ _ _ | with_reducible exact set_stN _ _ _ _ | with_reducible exact set_tsN _ _ _ _ | with_reducible exact set_tsI _ _ _ _ | with_reducible exact set_boN _ _ _ _ | with_reducible exact set_boI _ _ _ _ | (with_reducible refine get_mapN _ _ _ ?_; first | omega | (simp; omega)) | (with_reducible refine get_mapI _ _ _ ?_ ?_ <;> first | omega | (simp; omega)) | exact bs_beq _ _ | exact bs_less _ _ | exact bs_leq _ _ | with_reducible exact bs_app _ _ | (refine bs_get _ _ ?_; omega) | (refine bs_int _ _ ?_ ?_ <;> omega) | with_reducible exact sl_map0 _ _ _ | with_reducible exact sl_mapN _ _ _ | with_reducible exact sl_map _ _ _ _ | exact bs_extract0 _ _ | exact bs_extractN _ _ | exact bs_extract _ _ _ | (refine bnd_id ?_; omega) | (refine bnd_sub ?_ ?_ <;> omega) | (refine bnd_add ?_; omega) | (refine bnd_subN ?_ ?_ <;> omega) | (refine bnd_int ?_ ?_ <;> omega) | ((show @Eq Nat (_ + Int.toNat _ * _) _); simp only [Int.toNat_natCast, Nat.zero_add, Nat.mul_one]; rfl) | ((show @Eq (List _) (List.set [_] _ _) _); simp only [List.set_cons_zero]; rfl) | exact List.length_map _ | exact size_bs _ | (simp only [List.length_map, List.length_append, List.length_cons, List.length_nil, List.length_replicate, Nat.zero_add]; rfl) | with_reducible exact List.nil_append _ | with_reducible exact map_app _ _ _ | exact map_snoc byD _ _ | exact map_snoc inD _ _ | exact map_snoc stD _ _ | exact map_snoc tsD _ _ | (simp only [chunks]; rfl) | (refine wid ?_ ?_ <;> omega) | exact wby _ | with_reducible exact wby32 _ | with_reducible exact wu32 _ | exact wby64 _ | exact shr8 _ | exact shr16 _ | exact shr24 _ | exact shr32 _ | (refine tmodn ?_; omega) | (refine wdiv ?_ ?_ ?_ <;> omega) | exact wbyte _ | exact natlit _ | exact rep_by _ | exact rep_in _ | exact rep_bo _ | exact rep_st _ | (refine pick_nat _ _ _ ?_; omega) | (refine pick_int _ _ _ ?_ ?_ <;> omega) | (refine SlOf.full ?_; first | (simp; done) | (simp; omega)) | (with_reducible refine SlOf.pre _ _ ?_; first | omega | (simp; omega)) | (refine SlF.self _ _ ?_ ?_; (first | rfl | omega | (simp; done) | (simp; omega)); (exact fun _ => rfl)) | (refine SlF.pre _ _ ?_ ?_; (first | omega | (simp; omega)); (exact fun _ => rfl)) | (refine SlF.same ?_ ?_; (first | rfl | omega | (simp; done) | (simp; omega)); (first | exact fz_self _ _ (fun _ => rfl) | exact fz_pl rfl | (refine Fz.append ?_ ?_ <;> first | exact fz_self _ _ (fun _ => rfl) | exact fz_pl rfl) | (refine Fz.append (Fz.append ?_ ?_) ?_ <;> first | exact fz_self _ _ (fun _ => rfl) | exact fz_pl rfl))) | (simp only [Int.toNat_natCast, Nat.zero_add, Nat.mul_one]; rfl) | ((show @Eq (Option CV) _ _); rfl) | ((fail_if_success (show @Eq (Option _) _ _)); rfl) | ((show @Eq (Option _) _ _); simp only [List.getElem?_cons_zero, List.getElem?_cons_succ]; done) | ((show @Eq (Option _) _ _); simp only [List.getElem?_cons_zero, List.getElem?_cons_succ]; rfl) | with_reducible rfl)); conv => whnf))); exact Done.mk trivial))); conv => whnf)
 refine Out.mk true [] [] ?_
 try (conv => whnf)
 exact ⟨⟨A, a, B, b, rfl, rfl, ha, hb⟩⟩
theorem s_DrawMultiJoin (code : List UInt8) (hc : code.length ≤ 2 ^ 40) : CallM Try.prog id_spec_DrawMultiJoin [vY code] [] [] false TwoP := by
 refine F_spec_DrawMultiJoin ?_
 try (conv => whnf)
 refine Hand.mk [] ?_
 try (conv => whnf)
 refine CallW.n (s_l01Source code hc) ?_
 rintro _ _ ⟨s0, rfl, rfl, hS0⟩
 try (conv => whnf)
 refine Hand.mk [] ?_
 try (conv => whnf)
 refine CallW.n (s_l03Draw hS0 (by omega) false) ?_
 rintro _ _ ⟨a1, s1, _, rfl, hS1, A, a, B, b, rfl, rfl, ha, hb⟩
 try (conv => whnf)
 refine Out.mk true [] [] ?_
 try (conv => whnf)
 exact ⟨⟨A, a, B, b, rfl, rfl, ha, hb⟩⟩
theorem l_sameIntsV (a : List Int) (ha : a.length ≤ 2 ^ 39) : CallD Try.prog id_laws_sameInts [vN a, vN a] [] (vB true) [] := by
 refine F_laws_sameInts ?_
 try (conv => whnf)
 repeat' (first
  | (refine Pick.mk ?_ ?_ ?_; rotate_left; (focus (exact List.length_map _)); conv => whnf)
  | (refine SeqJ.thru ?_; conv => whnf)
  | (refine br_dec (fun _ => ?_) (fun _ => ?_) <;> first | (exfalso; omega) | contradiction | conv => whnf)
  | (refine br_not ?_; conv => whnf)
  | (refine br_bne (fun _ => ?_) (fun _ => ?_) <;> first | (exfalso; omega) | contradiction | conv => whnf)
  | (refine br_beq (fun _ => ?_) (fun _ => ?_) <;> first | (exfalso; omega) | contradiction | conv => whnf))
 refine LoopE.mk (fun i : Nat => mk [(0, vN a), (1, vN a), (5, vI .i64 i)] []) (fun i => i ≤ a.length) (fun i => a.length - i) 0 (by simp) (LeX.of ?_) ?_
 ·try (conv => whnf)
  repeat (refine Need.mk ?_ ?_; (focus (first | omega | (simp; done))); conv => whnf)
  trivial
 ·intro i hi
  try (conv => whnf)
  repeat' (first
   | (refine Pick.mk ?_ ?_ ?_; rotate_left; (focus (first | exact List.length_map _ | (refine wid ?_ ?_ <;> omega) | (refine pick_nat _ _ _ ?_; omega))); conv => whnf)
   | (refine SeqJ.thru ?_; conv => whnf)
   | (refine br_dec (fun _ => ?_) (fun _ => ?_) <;> first | (exfalso; omega) | contradiction | conv => whnf)
   | (refine br_not ?_; conv => whnf)
   | (refine br_bne (fun _ => ?_) (fun _ => ?_) <;> first | (exfalso; omega) | contradiction | conv => whnf)
   | (refine br_beq (fun _ => ?_) (fun _ => ?_) <;> first | (exfalso; omega) | contradiction | conv => whnf))
  ·refine Pick.mk (i + 1) (by constructor <;> first | omega | (simp only []; omega)) (LeX.of ?_)
   try (conv => whnf)
   repeat (refine Need.mk ?_ ?_; (focus (first | omega | (simp; done))); conv => whnf)
   trivial
  ·refine Out.mk true [] [] ?_
   try (conv => whnf)
   exact ⟨rfl, rfl⟩
theorem l_sameEntries (a : List EntV) (ha : a.length ≤ 2 ^ 39) : CallD Try.prog id_laws_sameEntries [vEs a, vEs a] [] (vB true) [] := by
 refine F_laws_sameEntries ?_
 try (conv => whnf)
 repeat' (first
  | (refine Pick.mk ?_ ?_ ?_; rotate_left; (focus (exact List.length_map _)); conv => whnf)
  | (refine SeqJ.thru ?_; conv => whnf)
  | (refine br_dec (fun _ => ?_) (fun _ => ?_) <;> first | (exfalso; omega) | contradiction | conv => whnf)
  | (refine br_not ?_; conv => whnf)
  | (refine br_bne (fun _ => ?_) (fun _ => ?_) <;> first | (exfalso; omega) | contradiction | conv => whnf)
  | (refine br_beq (fun _ => ?_) (fun _ => ?_) <;> first | (exfalso; omega) | contradiction | conv => whnf))
 refine LoopE.mk (fun i : Nat => mk [(0, vEs a), (1, vEs a), (5, vI .i64 i)] []) (fun i => i ≤ a.length) (fun i => a.length - i) 0 (by simp) (LeX.of ?_) ?_
 ·try (conv => whnf)
  repeat (refine Need.mk ?_ ?_; (focus (first | omega | (simp; done))); conv => whnf)
  trivial
 ·intro i hi
  try (conv => whnf)
  repeat' (first
   | (refine Pick.mk ?_ ?_ ?_; rotate_left; (focus (first | exact bs_beq _ _ | exact List.length_map _ | (refine wid ?_ ?_ <;> omega) | (refine pick_nat _ _ _ ?_; omega))); conv => whnf)
   | (refine SeqJ.thru ?_; conv => whnf)
   | (refine br_dec (fun _ => ?_) (fun _ => ?_) <;> first | (exfalso; omega) | contradiction | conv => whnf)
   | (refine br_not ?_; conv => whnf)
   | (refine br_bne (fun _ => ?_) (fun _ => ?_) <;> first | (exfalso; omega) | contradiction | conv => whnf)
   | (refine br_beq (fun _ => ?_) (fun _ => ?_) <;> first | (exfalso; omega) | contradiction | conv => whnf)
   | (refine br_and ?_; conv => whnf))
  ·refine Pick.mk (i + 1) (by constructor <;> first | omega | (simp only []; omega)) (LeX.of ?_)
   try (conv => whnf)
   repeat (refine Need.mk ?_ ?_; (focus (first | omega | (simp; done))); conv => whnf)
   trivial
  ·refine Out.mk true [] [] ?_
   try (conv => whnf)
   exact ⟨rfl, rfl⟩
theorem j_comm {A B : List Int} {a b : List EntV} (h : jC A a B b = 0) : jC B b A a = 0 ∧ jE B b A a = jE A a B b ∧ jS B b A a = jS A a B b := by
 obtain ⟨⟨ha, hb⟩, hl⟩ := jC_zero.1 h
 have e := join_comm ha hb
 have hc : jC B b A a = 0 := jC_zero.2 ⟨⟨hb, ha⟩, by rw [← e]; exact hl⟩
 exact ⟨hc, by rw [jE, jE, if_pos hc, if_pos h, e], by rw [jS, jS, if_pos hc, if_pos h, vmax_comm (by rw [ha.1.1, hb.1.1])]⟩
theorem j_out {A B : List Int} {a b : List EntV} (h : jC A a B b = 0) : jS A a B b = vmax A B ∧ jE A a B b = mg A B a b ∧ StOk (jS A a B b) (jE A a B b) := by
 obtain ⟨⟨ha, hb⟩, hl⟩ := jC_zero.1 h
 have h1 : jS A a B b = vmax A B := if_pos h
 have h2 : jE A a B b = mg A B a b := if_pos h
 exact ⟨h1, h2, by rw [h1, h2]; exact join_ok ha hb hl⟩
theorem j_again {A B : List Int} {a b : List EntV} (h : jC A a B b = 0) : jC (jS A a B b) (jE A a B b) B b = 0 ∧ jE (jS A a B b) (jE A a B b) B b = jE A a B b := by
 obtain ⟨⟨ha, hb⟩, hl⟩ := jC_zero.1 h
 obtain ⟨h1, h2, h3⟩ := j_out h
 have e := join_idem ha hb
 rw [← h1, ← h2] at e
 have hc : jC (jS A a B b) (jE A a B b) B b = 0 := jC_zero.2 ⟨⟨h3, hb⟩, by rw [e]; exact h3.2.1⟩
 exact ⟨hc, by rw [jE.eq_def (jS A a B b), if_pos hc, e]⟩
theorem j_assoc {P Q R : List Int} {p q r : List EntV} (h1 : jC P p Q q = 0) (h2 : jC Q q R r = 0) (h3 : jC (jS P p Q q) (jE P p Q q) R r = 0) (h4 : jC P p (jS Q q R r) (jE Q q R r) = 0) :
  jE (jS P p Q q) (jE P p Q q) R r = jE P p (jS Q q R r) (jE Q q R r) ∧ jS (jS P p Q q) (jE P p Q q) R r = jS P p (jS Q q R r) (jE Q q R r) := by
 obtain ⟨⟨hp, hq⟩, hl⟩ := jC_zero.1 h1
 obtain ⟨⟨_, hr⟩, hm⟩ := jC_zero.1 h2
 obtain ⟨a1, a2, a3⟩ := j_out h1
 obtain ⟨b1, b2, b3⟩ := j_out h2
 obtain ⟨c1, c2, c3⟩ := j_out h3
 obtain ⟨d1, d2, d3⟩ := j_out h4
 rw [c2, d2, c1, d1, a1, a2, b1, b2]
 exact ⟨join_assoc hp hq hr, vmax_assoc (by rw [hp.1.1, hq.1.1]) (by rw [hq.1.1, hr.1.1])⟩
end Go.Proofs.Ytpdjehnlejjfmaa.D
/- The law FnValues, as a call that gives back true. -/
namespace Go.Proofs.Ytpdjehnlejjfmaa.D
open Go.RowKit
set_option maxRecDepth 100000
set_option maxHeartbeats 40000000
set_option linter.unusedVariables false
set_option linter.unusedSimpArgs false

theorem jBig (A : List Int) (a : List EntV) (B : List Int) (b : List EntV) : (jE A a B b).length ≤ 2 ^ 62 ∧ ∀ e ∈ jE A a B b, e.x.length ≤ 2 ^ 62 := by
 by_cases h : jC A a B b = 0
 ·obtain ⟨_, _, h3⟩ := j_out h
  exact ⟨by have := h3.2.1; omega, fun e he => by have := (stOk_all h3 e he).2.1; omega⟩
 ·rw [jE, if_neg h]; simp
def Jd (A : List Int) (a : List EntV) (B : List Int) (b : List EntV) (S : List Int) (E : List EntV) (c : Int) : Prop := S = jS A a B b ∧ E = jE A a B b ∧ c = jC A a B b
theorem jd_ex (A : List Int) (a : List EntV) (B : List Int) (b : List EntV) : ∃ S E c, Jd A a B b S E c ∧ SV.tup [(true, [cN S, cE E]), (false, [cI c])] = jR A a B b := ⟨_, _, _, ⟨rfl, rfl, rfl⟩, rfl⟩
theorem Jd.big {A B S : List Int} {a b E : List EntV} {c : Int} (h : Jd A a B b S E c) : E.length ≤ 2 ^ 62 ∧ ∀ e ∈ E, e.x.length ≤ 2 ^ 62 := by rw [h.2.1]; exact jBig _ _ _ _
theorem Jd.lens {A B S : List Int} {a b E : List EntV} {c : Int} (h : Jd A a B b S E c) : S.length ≤ 16 ∧ E.length ≤ 256 := by rw [h.1, h.2.1]; exact jR_lens _ _ _ _
theorem Jd.comm {A B S T : List Int} {a b E F : List EntV} {d : Int} (h : Jd A a B b S E 0) (g : Jd B b A a T F d) : d = 0 ∧ T = S ∧ F = E := by
 obtain ⟨h1, h2, h3⟩ := h
 obtain ⟨g1, g2, g3⟩ := g
 obtain ⟨k1, k2, k3⟩ := j_comm h3.symm
 exact ⟨by rw [g3, k1], by rw [g1, k3, h1], by rw [g2, k2, h2]⟩
theorem Jd.again {A B S T : List Int} {a b E F : List EntV} {d : Int} (h : Jd A a B b S E 0) (g : Jd S E B b T F d) : d = 0 ∧ F = E := by
 obtain ⟨h1, h2, h3⟩ := h
 obtain ⟨g1, g2, g3⟩ := g
 obtain ⟨k1, k2⟩ := j_again h3.symm
 rw [← h1, ← h2] at k1 k2
 exact ⟨by rw [g3, k1], by rw [g2, k2]⟩
theorem Jd.assoc {P Q R S T X Y : List Int} {p q r E F U V : List EntV} (h1 : Jd P p Q q S E 0) (h2 : Jd Q q R r T F 0) (h3 : Jd S E R r X U 0) (h4 : Jd P p T F Y V 0) : X = Y ∧ U = V := by
 obtain ⟨a1, a2, a3⟩ := h1
 obtain ⟨b1, b2, b3⟩ := h2
 obtain ⟨c1, c2, c3⟩ := h3
 obtain ⟨d1, d2, d3⟩ := h4
 subst a1 a2 b1 b2
 obtain ⟨k1, k2⟩ := j_assoc a3.symm b3.symm c3.symm d3.symm
 exact ⟨by rw [c1, d1, k2], by rw [c2, d2, k1]⟩
theorem law_Values (code more : List UInt8) (hc : code.length ≤ 2 ^ 47) (hm : more.length ≤ 2 ^ 47) : CallD Try.prog id_laws_FnValues [vY code, vY more] [] (vB true) [] := by
 refine F_laws_FnValues ?_
 try (conv => whnf)
 repeat' (first
  | (refine Pick.mk ?_ ?_ ?_; rotate_left; (focus (exact List.length_map _)); conv => whnf)
  | (refine SeqJ.thru ?_; conv => whnf)
  | (refine br_dec (fun _ => ?_) (fun _ => ?_) <;> first | (exfalso; omega) | contradiction | conv => whnf)
  | (refine br_not ?_; conv => whnf)
  | (refine br_bne (fun _ => ?_) (fun _ => ?_) <;> first | (exfalso; omega) | contradiction | conv => whnf)
  | (refine br_beq (fun _ => ?_) (fun _ => ?_) <;> first | (exfalso; omega) | contradiction | conv => whnf))
 ·refine Out.mk true [] [] ?_
  try (conv => whnf)
  exact ⟨rfl, rfl⟩
 ·refine Out.mk true [] [] ?_
  try (conv => whnf)
  exact ⟨rfl, rfl⟩
 refine Hand.mk [] ?_
 try (conv => whnf)
 refine CallW.n (s_DrawSetJoin code (by omega)) ?_
 rintro _ _ ⟨A, a, B, b, rfl, rfl, ha, hb⟩
 obtain ⟨S, E, c, hJ, eJ⟩ := jd_ex A a B b
 have c1 := s_SetJoin A a B b ha.big hb.big
 have c2 := i_SetJoin A a B b ha.big hb.big
 rw [← eJ] at c1 c2
 have lJ := hJ.lens
 have b1 := l_sameIntsV S (by omega)
 have b2 := l_sameEntries E (by omega)
 try (conv => whnf)
 repeat' (first
  | (refine br_dec (fun _ => ?_) (fun _ => ?_) <;> first | (exfalso; omega) | contradiction | conv => whnf)
  | (refine br_not ?_; conv => whnf)
  | (refine br_bne (fun _ => ?_) (fun _ => ?_) <;> first | (exfalso; omega) | contradiction | conv => whnf)
  | (refine br_beq (fun _ => ?_) (fun _ => ?_) <;> first | (exfalso; omega) | contradiction | conv => whnf))
 refine Hand.mk [] ?_
 try (conv => whnf)
 refine CallW.k (c1) ?_
 try (conv => whnf)
 refine Hand.mk [] ?_
 try (conv => whnf)
 refine CallW.k (c2) ?_
 try (conv => whnf)
 repeat (refine SeqJ.thru ?_; conv => whnf)
 try (conv => whnf)
 repeat' (first
  | (refine br_dec (fun _ => ?_) (fun _ => ?_) <;> first | (exfalso; omega) | contradiction | conv => whnf)
  | (refine br_not ?_; conv => whnf)
  | (refine br_bne (fun _ => ?_) (fun _ => ?_) <;> first | (exfalso; omega) | contradiction | conv => whnf)
  | (refine br_beq (fun _ => ?_) (fun _ => ?_) <;> first | (exfalso; omega) | contradiction | conv => whnf))
 refine Hand.mk [] ?_
 try (conv => whnf)
 refine CallW.d (b1) ?_
 try (conv => whnf)
 try (conv => whnf)
 repeat' (first
  | (refine br_dec (fun _ => ?_) (fun _ => ?_) <;> first | (exfalso; omega) | contradiction | conv => whnf)
  | (refine br_not ?_; conv => whnf)
  | (refine br_bne (fun _ => ?_) (fun _ => ?_) <;> first | (exfalso; omega) | contradiction | conv => whnf)
  | (refine br_beq (fun _ => ?_) (fun _ => ?_) <;> first | (exfalso; omega) | contradiction | conv => whnf))
 refine Hand.mk [] ?_
 try (conv => whnf)
 refine CallW.d (b2) ?_
 try (conv => whnf)
 refine SeqJ.join (σ := Unit) (fun _ => mk [(0, vY code), (1, vY more)] []) (fun _ => True) ?_ ?_
 ·by_cases h0 : c = 0
  ·subst h0
   obtain ⟨T, F, d, hK, eK⟩ := jd_ex B b A a
   obtain ⟨U, G, e, hL, eL⟩ := jd_ex S E B b
   have c3 := i_SetJoin B b A a hb.big ha.big
   have c4 := i_SetJoin S E B b hJ.big hb.big
   obtain ⟨rfl, rfl, rfl⟩ := hJ.comm hK
   obtain ⟨rfl, rfl⟩ := hJ.again hL
   rw [← eK] at c3
   rw [← eL] at c4
   try (conv => whnf)
   repeat' (first
    | (refine br_dec (fun _ => ?_) (fun _ => ?_) <;> first | (exfalso; omega) | contradiction | conv => whnf)
    | (refine br_not ?_; conv => whnf)
    | (refine br_bne (fun _ => ?_) (fun _ => ?_) <;> first | (exfalso; omega) | contradiction | conv => whnf)
    | (refine br_beq (fun _ => ?_) (fun _ => ?_) <;> first | (exfalso; omega) | contradiction | conv => whnf))
   refine Hand.mk [] ?_
   try (conv => whnf)
   refine CallW.k (c3) ?_
   try (conv => whnf)
   refine Hand.mk [] ?_
   try (conv => whnf)
   refine CallW.k (c4) ?_
   try (conv => whnf)
   try (conv => whnf)
   repeat' (first
    | (refine br_dec (fun _ => ?_) (fun _ => ?_) <;> first | (exfalso; omega) | contradiction | conv => whnf)
    | (refine br_not ?_; conv => whnf)
    | (refine br_bne (fun _ => ?_) (fun _ => ?_) <;> first | (exfalso; omega) | contradiction | conv => whnf)
    | (refine br_beq (fun _ => ?_) (fun _ => ?_) <;> first | (exfalso; omega) | contradiction | conv => whnf))
   refine Hand.mk [] ?_
   try (conv => whnf)
   refine CallW.d (b2) ?_
   try (conv => whnf)
   try (conv => whnf)
   repeat' (first
    | (refine br_dec (fun _ => ?_) (fun _ => ?_) <;> first | (exfalso; omega) | contradiction | conv => whnf)
    | (refine br_not ?_; conv => whnf)
    | (refine br_bne (fun _ => ?_) (fun _ => ?_) <;> first | (exfalso; omega) | contradiction | conv => whnf)
    | (refine br_beq (fun _ => ?_) (fun _ => ?_) <;> first | (exfalso; omega) | contradiction | conv => whnf))
   refine Hand.mk [] ?_
   try (conv => whnf)
   refine CallW.d (b2) ?_
   try (conv => whnf)
   try (conv => whnf)
   repeat' (first
    | (refine br_dec (fun _ => ?_) (fun _ => ?_) <;> first | (exfalso; omega) | contradiction | conv => whnf)
    | (refine br_not ?_; conv => whnf)
    | (refine br_bne (fun _ => ?_) (fun _ => ?_) <;> first | (exfalso; omega) | contradiction | conv => whnf)
    | (refine br_beq (fun _ => ?_) (fun _ => ?_) <;> first | (exfalso; omega) | contradiction | conv => whnf))
   refine Hand.mk [] ?_
   try (conv => whnf)
   refine CallW.d (b1) ?_
   try (conv => whnf)
   try (conv => whnf)
   repeat' (first
    | (refine br_dec (fun _ => ?_) (fun _ => ?_) <;> first | (exfalso; omega) | contradiction | conv => whnf)
    | (refine br_not ?_; conv => whnf)
    | (refine br_bne (fun _ => ?_) (fun _ => ?_) <;> first | (exfalso; omega) | contradiction | conv => whnf)
    | (refine br_beq (fun _ => ?_) (fun _ => ?_) <;> first | (exfalso; omega) | contradiction | conv => whnf))
   refine Pick.mk () trivial (LeX.of ?_)
   try (conv => whnf)
   repeat (refine Need.mk ?_ ?_; (focus ((simp; done))); conv => whnf)
   trivial
  ·try (conv => whnf)
   repeat' (first
    | (refine br_dec (fun _ => ?_) (fun _ => ?_) <;> first | (exfalso; omega) | contradiction | conv => whnf)
    | (refine br_not ?_; conv => whnf)
    | (refine br_bne (fun _ => ?_) (fun _ => ?_) <;> first | (exfalso; omega) | contradiction | conv => whnf)
    | (refine br_beq (fun _ => ?_) (fun _ => ?_) <;> first | (exfalso; omega) | contradiction | conv => whnf))
   refine Pick.mk () trivial (LeX.of ?_)
   try (conv => whnf)
   repeat (refine Need.mk ?_ ?_; (focus ((simp; done))); conv => whnf)
   trivial
 ·rintro - -
  try (conv => whnf)
  clear hJ eJ c1 c2 b1 b2 lJ
  refine Hand.mk [] ?_
  try (conv => whnf)
  refine CallW.n (s_DrawMultiJoin code (by omega)) ?_
  rintro _ _ ⟨P, p, Q, q, rfl, rfl, hp, hq⟩
  try (conv => whnf)
  refine Hand.mk [] ?_
  try (conv => whnf)
  refine CallW.n (s_DrawMultiJoin more (by omega)) ?_
  rintro _ _ ⟨R, r, O, o, rfl, rfl, hr, -⟩
  obtain ⟨S, E, c, hJ, eJ⟩ := jd_ex P p Q q
  obtain ⟨T, F, d, hK, eK⟩ := jd_ex Q q R r
  have i1 := i_MultiJoin P p Q q hp.big hq.big
  have s1 := s_MultiJoin P p Q q hp.big hq.big
  have i2 := i_MultiJoin Q q R r hq.big hr.big
  have s2 := s_MultiJoin Q q R r hq.big hr.big
  rw [← eJ] at i1 s1
  rw [← eK] at i2 s2
  try (conv => whnf)
  refine Hand.mk [] ?_
  try (conv => whnf)
  refine CallW.k (i1) ?_
  try (conv => whnf)
  refine Hand.mk [] ?_
  try (conv => whnf)
  refine CallW.k (s1) ?_
  try (conv => whnf)
  repeat (refine SeqJ.thru ?_; conv => whnf)
  try (conv => whnf)
  repeat' (first
   | (refine br_dec (fun _ => ?_) (fun _ => ?_) <;> first | (exfalso; omega) | contradiction | conv => whnf)
   | (refine br_not ?_; conv => whnf)
   | (refine br_bne (fun _ => ?_) (fun _ => ?_) <;> first | (exfalso; omega) | contradiction | conv => whnf)
   | (refine br_beq (fun _ => ?_) (fun _ => ?_) <;> first | (exfalso; omega) | contradiction | conv => whnf))
  refine Hand.mk [] ?_
  try (conv => whnf)
  refine CallW.k (i2) ?_
  try (conv => whnf)
  refine Hand.mk [] ?_
  try (conv => whnf)
  refine CallW.k (s1) ?_
  try (conv => whnf)
  refine Hand.mk [] ?_
  try (conv => whnf)
  refine CallW.k (s2) ?_
  try (conv => whnf)
  repeat (refine SeqJ.thru ?_; conv => whnf)
  by_cases hc0 : c = 0
  rotate_left
  ·try (conv => whnf)
   repeat' (first
    | (refine SeqJ.thru ?_; conv => whnf)
    | (refine br_dec (fun _ => ?_) (fun _ => ?_) <;> first | (exfalso; omega) | contradiction | conv => whnf)
    | (refine br_not ?_; conv => whnf)
    | (refine br_bne (fun _ => ?_) (fun _ => ?_) <;> first | (exfalso; omega) | contradiction | conv => whnf)
    | (refine br_beq (fun _ => ?_) (fun _ => ?_) <;> first | (exfalso; omega) | contradiction | conv => whnf))
   refine Out.mk true [] [] ?_
   try (conv => whnf)
   exact ⟨rfl, rfl⟩
  by_cases hd0 : d = 0
  rotate_left
  ·try (conv => whnf)
   repeat' (first
    | (refine SeqJ.thru ?_; conv => whnf)
    | (refine br_dec (fun _ => ?_) (fun _ => ?_) <;> first | (exfalso; omega) | contradiction | conv => whnf)
    | (refine br_not ?_; conv => whnf)
    | (refine br_bne (fun _ => ?_) (fun _ => ?_) <;> first | (exfalso; omega) | contradiction | conv => whnf)
    | (refine br_beq (fun _ => ?_) (fun _ => ?_) <;> first | (exfalso; omega) | contradiction | conv => whnf))
   refine Out.mk true [] [] ?_
   try (conv => whnf)
   exact ⟨rfl, rfl⟩
  subst hc0 hd0
  obtain ⟨X, U, e, hX, eX⟩ := jd_ex S E R r
  obtain ⟨Y, V, f, hY, eY⟩ := jd_ex P p T F
  have i3 := i_MultiJoin S E R r hJ.big hr.big
  have s3 := s_MultiJoin S E R r hJ.big hr.big
  have i4 := i_MultiJoin P p T F hp.big hK.big
  have s4 := s_MultiJoin P p T F hp.big hK.big
  rw [← eX] at i3 s3
  rw [← eY] at i4 s4
  have lX := hX.lens
  try (conv => whnf)
  repeat' (first
   | (refine SeqJ.thru ?_; conv => whnf)
   | (refine br_dec (fun _ => ?_) (fun _ => ?_) <;> first | (exfalso; omega) | contradiction | conv => whnf)
   | (refine br_not ?_; conv => whnf)
   | (refine br_bne (fun _ => ?_) (fun _ => ?_) <;> first | (exfalso; omega) | contradiction | conv => whnf)
   | (refine br_beq (fun _ => ?_) (fun _ => ?_) <;> first | (exfalso; omega) | contradiction | conv => whnf))
  refine Hand.mk [] ?_
  try (conv => whnf)
  refine CallW.k (i3) ?_
  try (conv => whnf)
  refine Hand.mk [] ?_
  try (conv => whnf)
  refine CallW.k (i4) ?_
  try (conv => whnf)
  refine Hand.mk [] ?_
  try (conv => whnf)
  refine CallW.k (s3) ?_
  try (conv => whnf)
  refine Hand.mk [] ?_
  try (conv => whnf)
  refine CallW.k (s4) ?_
  try (conv => whnf)
  repeat (refine SeqJ.thru ?_; conv => whnf)
  by_cases he0 : e = 0
  rotate_left
  ·try (conv => whnf)
   repeat' (first
    | (refine br_dec (fun _ => ?_) (fun _ => ?_) <;> first | (exfalso; omega) | contradiction | conv => whnf)
    | (refine br_not ?_; conv => whnf)
    | (refine br_bne (fun _ => ?_) (fun _ => ?_) <;> first | (exfalso; omega) | contradiction | conv => whnf)
    | (refine br_beq (fun _ => ?_) (fun _ => ?_) <;> first | (exfalso; omega) | contradiction | conv => whnf))
   refine Out.mk true [] [] ?_
   try (conv => whnf)
   exact ⟨rfl, rfl⟩
  by_cases hf0 : f = 0
  rotate_left
  ·try (conv => whnf)
   repeat' (first
    | (refine br_dec (fun _ => ?_) (fun _ => ?_) <;> first | (exfalso; omega) | contradiction | conv => whnf)
    | (refine br_not ?_; conv => whnf)
    | (refine br_bne (fun _ => ?_) (fun _ => ?_) <;> first | (exfalso; omega) | contradiction | conv => whnf)
    | (refine br_beq (fun _ => ?_) (fun _ => ?_) <;> first | (exfalso; omega) | contradiction | conv => whnf))
   refine Out.mk true [] [] ?_
   try (conv => whnf)
   exact ⟨rfl, rfl⟩
  subst he0 hf0
  obtain ⟨rfl, rfl⟩ := hJ.assoc hK hX hY
  have b1 := l_sameIntsV X (by omega)
  have b2 := l_sameEntries U (by omega)
  try (conv => whnf)
  repeat' (first
   | (refine br_dec (fun _ => ?_) (fun _ => ?_) <;> first | (exfalso; omega) | contradiction | conv => whnf)
   | (refine br_not ?_; conv => whnf)
   | (refine br_bne (fun _ => ?_) (fun _ => ?_) <;> first | (exfalso; omega) | contradiction | conv => whnf)
   | (refine br_beq (fun _ => ?_) (fun _ => ?_) <;> first | (exfalso; omega) | contradiction | conv => whnf))
  refine Hand.mk [] ?_
  try (conv => whnf)
  refine CallW.d (b2) ?_
  try (conv => whnf)
  try (conv => whnf)
  repeat' (first
   | (refine br_dec (fun _ => ?_) (fun _ => ?_) <;> first | (exfalso; omega) | contradiction | conv => whnf)
   | (refine br_not ?_; conv => whnf)
   | (refine br_bne (fun _ => ?_) (fun _ => ?_) <;> first | (exfalso; omega) | contradiction | conv => whnf)
   | (refine br_beq (fun _ => ?_) (fun _ => ?_) <;> first | (exfalso; omega) | contradiction | conv => whnf))
  refine Hand.mk [] ?_
  try (conv => whnf)
  refine CallW.d (b1) ?_
  try (conv => whnf)
  try (conv => whnf)
  repeat' (first
   | (refine br_dec (fun _ => ?_) (fun _ => ?_) <;> first | (exfalso; omega) | contradiction | conv => whnf)
   | (refine br_not ?_; conv => whnf)
   | (refine br_bne (fun _ => ?_) (fun _ => ?_) <;> first | (exfalso; omega) | contradiction | conv => whnf)
   | (refine br_beq (fun _ => ?_) (fun _ => ?_) <;> first | (exfalso; omega) | contradiction | conv => whnf))
  refine Out.mk true [] [] ?_
  try (conv => whnf)
  exact ⟨rfl, rfl⟩
end Go.Proofs.Ytpdjehnlejjfmaa.D
/- From a call's contract to the given row: the arguments as they read. -/
namespace Go.Proofs.Ytpdjehnlejjfmaa.D
open Go.ChangeShapes Go.WideShapes Go.ChangeAt Go.RowKit
open Go.ChangeMaps (open_string)
set_option linter.unusedVariables false
set_option linter.unusedSimpArgs false

def cellsV (w : World) : View := fun x => w.cell? x
theorem satL0 (w : World) : SatL w Rows0.none (cellsV w) (fun _ => none) (Lof []) w :=
 ⟨Keep.refl _ _, fun _ _ h => h, fun x v p b n _ h => by simp at h, fun p q b n n' h => by simp at h, fun p b n h => by simp at h, fun p r h => by simp [Lof] at h, ⟨by simp [Rows0.none], fun q x h => by simp [Rows0.none] at h⟩, fun _ _ => ⟨rfl, fun _ _ => rfl⟩,
  fun p r h => by simp [Lof] at h, fun t => .one (.dead _), rfl, rfl⟩
theorem enter_law {P : Program} {f : FuncId} {args : List SV} {w : World} {vs : List Value} (h : CallD P f args [] (vB true) []) (ha : Args (cellsV w) (fun _ => none) args vs) :
  Calls P f vs.toArray w (fun e w' => e = .returned (.bool true) ∧ Below w.heap.size w w') := by
 refine (h.2 w Rows0.none _ _ vs rfl (satL0 w) ha).mono ?_
 rintro e w' ⟨v, V', bs', res, Lo, rfl, ⟨rfl, rfl⟩, -, -, -, hs, hv, -⟩
 refine ⟨?_, hs.keep.below⟩
 cases hv with
 |one h => cases h with
  | dv h => cases h; rfl
theorem args0 {V : View} {b : Loc} : Args V b [] [] := ⟨rfl, fun i sv v h => by simp at h⟩
theorem argsC {V : View} {b : Loc} {a : SV} {v : Value} {az : List SV} {vs : List Value} (h : VR V b a v) (t : Args V b az vs) : Args V b (a :: az) (v :: vs) :=
 ⟨by simp [t.len], fun i sv u h1 h2 => by
  cases i with
  | zero => simp at h1 h2; subst h1; subst h2; exact h
  | succ i => exact t.get i sv u (by simpa using h1) (by simpa using h2)⟩
section
variable {H : Type} {enc : TypeId × Value → H} {P : Program} {W : World} {base : Nat} {sp : Nat → Bool} {held : Bool}
theorem u8_of {n : Int} (h : (Lit.int .u8 n).wf = true) : ∃ b : UInt8, n = b.toNat := by
 have : 0 ≤ n ∧ n < 256 := by
  simp [Lit.wf, IntKind.min, IntKind.max, IntKind.bits, IntKind.signed] at h
  omega
 exact ⟨u8 n, by rw [u8_val]; omega⟩
theorem list_of {α : Type} (p : α → Int → Prop) : ∀ (zs : List Int), (∀ n ∈ zs, ∃ a, p a n) → ∃ l : List α, l.length = zs.length ∧ ∀ i (h : i < l.length) (h2 : i < zs.length), p l[i] zs[i]
 | [], _ => ⟨[], rfl, fun i h => by simp at h⟩
 |z :: zs, h => by
  obtain ⟨a, ha⟩ := h z (by simp)
  obtain ⟨l, hl, hp⟩ := list_of p zs fun n hn => h n (by simp [hn])
  refine ⟨a :: l, by simp [hl], fun i h h2 => ?_⟩
  cases i with
  | zero => exact ha
  | succ i => exact hp i (by simpa using h) (by simpa using h2)
theorem rd_cells {W : World} {x : Addr} {len cap : Nat} {es : List DV} {g : Nat → Value} (hl : es.length = len) (hc : len ≤ cap) (hg : ∀ i, i < len → W.cell? (x.add i) = some (g i))
  (hr : ∀ i (h : i < es.length), Rd (cellsV W) (g i) es[i]) : Rd (cellsV W) (.slice (some x) len cap) (.sl (es.map fun e => [e])) := by
 by_cases h0 : len = 0
 ·subst h0
  have : es = [] := List.eq_nil_of_length_eq_zero hl
  subst this
  exact .nil _ _
 ·have hx : x = ⟨x.block, x.off, none⟩ := by
   have h1 := hg 0 (by omega)
   have h2 : x.add 0 = x := by simp [Addr.add]
   rw [h2] at h1
   have h3 : x.spot = none := by
    simp only [World.cell?] at h1
    split at h1
    ·split at h1
     ·simp at h1
     ·rename_i h; simpa using h
    ·simp at h1
   cases x; simp_all
  have := Rd.sl (V := cellsV W) x.block x.off 1 cap (es.map fun e => [e]) (fun i _ => g i) (by simp; omega) (by simp) (fun i j hi hj => by
   have h1 := hg i (by simpa [hl] using hi)
   have h2 : x.add i = ⟨x.block, x.off + i * 1 + j, none⟩ := by
    rcases Nat.eq_zero_or_pos i with rfl | hi0
    ·rw [show x.add 0 = x from by simp [Addr.add]]
     simp only [Nat.zero_mul, Nat.add_zero]
     have : j = 0 := by omega
     subst this
     exact hx
    ·unfold Addr.add
     rw [if_neg (by omega)]
     have : j = 0 := by omega
     subst this
     simp
   rw [h2] at h1
   exact h1) (fun i j hi hj => by
   simp at hj
   subst hj
   simpa using hr i (by simpa using hi))
  rw [hx]
  simpa [hl] using this
theorem in_bytes {t e : TypeId} {a : Option Addr} {len cap : Nat} {d : DataW H} {ps : List MemPlace} {ts : List TypeId} {ds : List (DataW H)} {j : Nat} (hsz : (DataW.weightsEach P ts ds).all (· ≤ reachBytes) = true) (h1 : ts[j]? = some t) (h2 : ds[j]? = some d)
  (ht : P.underlying t = some (.slice e)) (he : P.underlying e = some (.int .u8)) (hc : P.cellsOf e = 1) (hb : P.bytesOf e = 1)
  (h : DataW.Trod enc P W base sp held t (.slice a len cap) d ps) : ∃ l : List UInt8, l.length = len ∧ l.length ≤ 2 ^ 47 ∧ Rd (cellsV W) (.slice a len cap) (.sl (l.map byD)) := by
 obtain ⟨fuel, hf⟩ := h
 rcases open_ints ht he hc hf with ⟨hcs, _⟩ | ⟨x, l, c, zs, hcs, _, hl, hm, hz, hx, hcell, hwz⟩
 ·simp [Value.cells] at hcs
  obtain ⟨rfl, rfl, rfl⟩ := hcs
  exact ⟨[], rfl, by simp, .nil _ _⟩
 ·simp [Value.cells] at hcs
  obtain ⟨rfl, rfl, rfl⟩ := hcs
  obtain ⟨hx, _⟩ := Prod.mk.inj hx
  subst hx
  have z := sized_slice hsz h1 h2 ht
  have hr := reachBytes_lt
  rw [hb] at z
  have hll : (lits (H := H) .u8 (zs.take len)).length + (lits (H := H) .u8 (zs.drop len)).length = zs.length := by
   simp [lits]; omega
  have hzl : len ≤ zs.length := by rw [hz]; split <;> omega
  obtain ⟨bsl, hbl, hp⟩ := list_of (fun (b : UInt8) n => n = b.toNat) zs fun n hn => u8_of (hwz n hn)
  refine ⟨bsl.take len, by simp; omega, by simp; omega, ?_⟩
  have := rd_cells (W := W) (x := x) (len := len) (cap := cap) (es := (bsl.take len).map fun b => DV.sc (.int .u8 b.toNat)) (g := fun i => .int .u8 (zs.getD i 0)) (by simp; omega) hl (fun i hi => hcell i (by omega)) (fun i hi => by
   simp only [List.length_map, List.length_take] at hi
   have := hp i (by omega) (by omega)
   simp only [List.getElem_map, List.getElem_take]
   rw [show zs.getD i 0 = zs[i]'(by omega) by simp [List.getD, show i < zs.length by omega], this]
   exact .sc _ rfl)
  rw [List.map_map] at this
  exact this
theorem vrY {l : List UInt8} {v : Value} {b : Loc} (h : Rd (cellsV W) v (.sl (l.map byD))) : VR (cellsV W) b (vY l) v := .one (.dv h)
end
end Go.Proofs.Ytpdjehnlejjfmaa.D
