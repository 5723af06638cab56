/- The group of the program: its cells, and what it does in a step. -/
import Derived.WalkKit
import Derived.ProofKit
import Derived.OpenShut
import Derived.ShutString
import Derived.ChangeOld
import Derived.Below
import Derived.SizedLaws
import Derived.ChangeSlices
import Derived.SliceStrings
import Derived.Test.YtpdjehnlejjfmaaJ5
set_option linter.unusedVariables false
set_option linter.unusedSimpArgs false
namespace Go.Proofs.Ytpdjehnlejjfmaa.D
open Go.RowKit
set_option maxRecDepth 100000
set_option maxHeartbeats 4000000
set_option linter.unusedVariables false
set_option linter.unusedSimpArgs false

abbrev dB (b : Bool) : DV := .sc (.bool b)
abbrev dK (n : Int) : DV := .sc (.int .i64 n)
def meD (m : List Bool) : List DV := m.map dB
abbrev seD (e : Int × List UInt8) : List DV := [dK e.1, .sc (.string (bs e.2))]
structure GrV where
 mem : List Bool
 size : Int
 holds : List (List Bool)
 added : List Bool
 thief : List Bool
 sent : List (Int × List UInt8)
def grD (g : GrV) : List DV := meD g.mem ++ [dK g.size, .ow 16 0 g.holds.length (g.holds.map meD), .ow 1 0 g.added.length (g.added.map boD), .ow 1 0 g.thief.length (g.thief.map boD), .ow 2 0 g.sent.length (g.sent.map seD)]
structure GrV.Wf (n : Nat) (g : GrV) : Prop where
 mem : g.mem.length = 16
 holds : ∀ m ∈ g.holds, m.length = 16
 added : g.added.length = g.holds.length
 thief : g.thief.length = g.holds.length
 pos : 1 ≤ g.holds.length
 few : g.holds.length ≤ n ∧ g.sent.length ≤ n ∧ -(n : Int) ≤ g.size ∧ g.size ≤ n
 sent : ∀ e ∈ g.sent, 0 ≤ e.1 ∧ e.1 < g.holds.length
def GrV.next (g : GrV) (b : Bool) : GrV := { g with holds := g.holds ++ [g.mem], added := g.added ++ [b], thief := g.thief ++ [b && g.thief.getD (g.holds.length - 1) false] }
def stealT (g : GrV) (a : Nat) : Nat → List Bool
 | 0 => g.thief
 | i + 1 => if (g.holds.getD i []).getD a false = true ∨ 0 < i ∧ g.added.getD i false = true ∧ (stealT g a i).getD (i - 1) false = true then (stealT g a i).set i true else stealT g a i
def GrV.steal (g : GrV) (a : Nat) : GrV := { g with thief := stealT g a g.holds.length }
def GrV.come (g : GrV) (a : Nat) : GrV := { g with mem := g.mem.set a true, size := g.size + 1 }
def GrV.gone (g : GrV) (a : Nat) : GrV := { g with mem := g.mem.set a false, size := g.size - 1 }
def GrV.send (g : GrV) (x : List UInt8) : GrV := { g with sent := g.sent ++ [((g.holds.length : Int) - 1, x)] }
def gstep (g : GrV) (k a n : Int) (x : List UInt8) : GrV × (Int × Int × List UInt8) :=
 if ¬ (0 ≤ a ∧ a < 16) then (g, 1, 0, []) else
 if k = 1 then (if g.mem.getD a.toNat false = true then (g, 6, 0, []) else ((g.come a.toNat).next true, 0, 0, [])) else
 if k = 2 ∨ k = 3 then (if g.mem.getD a.toNat false = true then (if k = 2 then (if g.size = 1 then (g, 4, 0, []) else ((g.gone a.toNat).next false, 0, 0, [])) else (g.next false, 0, 0, [])) else (g, 7, 0, [])) else
 if k = 4 then (if g.mem.getD a.toNat false = true then (if x.length > 200 then (g, 4, 0, []) else (g.send x, 0, ((g.sent.length + 1 : Nat) : Int), [])) else (g, 7, 0, [])) else
 if k = 5 ∨ k = 7 then (if n < 1 ∨ n > g.sent.length then (g, 4, 0, []) else
  if k = 5 ∧ ¬ (g.holds.getD (g.sent.getD (n - 1).toNat (0, [])).1.toNat []).getD a.toNat false = true ∨ k = 7 ∧ ¬ g.thief.getD (g.sent.getD (n - 1).toNat (0, [])).1.toNat false = true then (g, 9, 0, []) else (g, 0, 0, (g.sent.getD (n - 1).toNat (0, [])).2)) else
 if k = 6 then (g.steal a.toNat, 0, 0, []) else (g, 1, 0, [])
theorem gr_mem {g : GrV} (h : g.mem.length = 16) {a : Nat} (ha : a < 16) : (grD g)[a]? = some (dB (g.mem.getD a false)) := by
 simp only [grD, meD]
 rw [List.getElem?_append_left (by simp; omega), List.getElem?_map, List.getElem?_eq_getElem (by omega)]
 simp [List.getD, show a < g.mem.length by omega]
theorem gr_tail {g : GrV} (h : g.mem.length = 16) (n : Nat) : (grD g)[16 + n]? = [dK g.size, .ow 16 0 g.holds.length (g.holds.map meD), .ow 1 0 g.added.length (g.added.map boD), .ow 1 0 g.thief.length (g.thief.map boD), .ow 2 0 g.sent.length (g.sent.map seD)][n]? := by
 simp only [grD, meD]
 rw [List.getElem?_append_right (by simp; omega)]
 congr 1; simp [h]
theorem gr_size {g : GrV} (h : g.mem.length = 16) : (grD g)[16]? = some (dK g.size) := gr_tail h 0
theorem gr_holds {g : GrV} (h : g.mem.length = 16) : (grD g)[17]? = some (.ow 16 0 g.holds.length (g.holds.map meD)) := gr_tail h 1
theorem gr_added {g : GrV} (h : g.mem.length = 16) : (grD g)[18]? = some (.ow 1 0 g.added.length (g.added.map boD)) := gr_tail h 2
theorem gr_thief {g : GrV} (h : g.mem.length = 16) : (grD g)[19]? = some (.ow 1 0 g.thief.length (g.thief.map boD)) := gr_tail h 3
theorem gr_sent {g : GrV} (h : g.mem.length = 16) : (grD g)[20]? = some (.ow 2 0 g.sent.length (g.sent.map seD)) := gr_tail h 4
theorem gr_len {g : GrV} (h : g.mem.length = 16) : (grD g).length = 21 := by simp [grD, meD, h]
theorem gr_members {g : GrV} (h : g.mem.length = 16) : 0 + 0 + 16 ≤ (grD g).length ∧ ((grD g).drop (0 + 0)).take 16 = meD g.mem := by
 refine ⟨by rw [gr_len h]; omega, ?_⟩
 rw [List.drop_zero, grD, List.take_left' (by simp [meD, h])]
theorem gr_set {g : GrV} (h : g.mem.length = 16) (k : Nat) (x y : DV) (hk : k < 5) : [(grD g).set (16 + k) y].set 0 (splice ((grD g).set (16 + k) y) (16 + k) [x]) = [(grD g).set (16 + k) x] := by
 rw [List.set_cons_zero]
 congr 1
 have hl := gr_len h
 unfold splice
 rw [List.set_eq_take_append_cons_drop (l := (grD g)) (i := 16 + k) (a := x), if_pos (by omega)]
 simp [List.take_set_of_le, List.drop_set_of_lt]
theorem gr_put {g : GrV} (h : g.mem.length = 16) (k : Nat) (x : DV) : (grD g).set (16 + k) x = meD g.mem ++ ([dK g.size, .ow 16 0 g.holds.length (g.holds.map meD), .ow 1 0 g.added.length (g.added.map boD), .ow 1 0 g.thief.length (g.thief.map boD), .ow 2 0 g.sent.length (g.sent.map seD)] : List DV).set k x := by
 rw [grD, List.set_append_right _ _ (by simp [meD, h])]
 congr 2
 simp [meD, h]
theorem grl_holds {g : GrV} (h : g.mem.length = 16) (l : List (List Bool)) (n : Nat) (hn : n = l.length) : [(grD g).set 17 .no].set 0 (splice ((grD g).set 17 .no) 17 [.ow 16 0 n (l.map meD)]) = [grD { g with holds := l }] := by
 subst hn
 rw [gr_set h 1 _ _ (by omega), gr_put h 1]; rfl
theorem grl_added {g : GrV} (h : g.mem.length = 16) (l : List Bool) (n : Nat) (hn : n = l.length) : [(grD g).set 18 .no].set 0 (splice ((grD g).set 18 .no) 18 [.ow 1 0 n (l.map boD)]) = [grD { g with added := l }] := by
 subst hn
 rw [gr_set h 2 _ _ (by omega), gr_put h 2]; rfl
theorem grl_thief {g : GrV} (h : g.mem.length = 16) (l : List Bool) (n : Nat) (hn : n = l.length) : [(grD g).set 19 .no].set 0 (splice ((grD g).set 19 .no) 19 [.ow 1 0 n (l.map boD)]) = [grD { g with thief := l }] := by
 subst hn
 rw [gr_set h 3 _ _ (by omega), gr_put h 3]; rfl
theorem grl_sent {g : GrV} (h : g.mem.length = 16) (l : List (Int × List UInt8)) (n : Nat) (hn : n = l.length) : [(grD g).set 20 .no].set 0 (splice ((grD g).set 20 .no) 20 [.ow 2 0 n (l.map seD)]) = [grD { g with sent := l }] := by
 subst hn
 rw [gr_set h 4 _ _ (by omega), gr_put h 4]; rfl
theorem i_epochD (c0 c1 c2 c3 c4 c5 c6 c7 c8 c9 c10 c11 c12 c13 c14 c15 c16 c18 c19 c20 : DV) (hs : List (List DV)) (hl : hs.length ≤ 2 ^ 30) :
  CallD Try.prog id_impl_group_epoch [.one (.dp [c0, c1, c2, c3, c4, c5, c6, c7, c8, c9, c10, c11, c12, c13, c14, c15, c16, .sl hs, c18, c19, c20] 0)] [] (vI .i64 ((hs.length : Int) - 1)) [] := by
 refine F_impl_group_epoch ?_
 try (conv => whnf)
 repeat (refine Pick.mk ?_ ?_ ?_; rotate_left; (focus (first | (refine wid ?_ ?_ <;> omega) | ((fail_if_success (show @Eq (Option _) _ _)); rfl))); conv => whnf)
 refine Out.mk true [] [] ?_
 try (conv => whnf)
 exact ⟨rfl, rfl⟩
theorem sixteen {m : List Bool} (h : m.length = 16) : ∃ m0 m1 m2 m3 m4 m5 m6 m7 m8 m9 m10 m11 m12 m13 m14 m15, m = [m0, m1, m2, m3, m4, m5, m6, m7, m8, m9, m10, m11, m12, m13, m14, m15] := by
 match m, h with
 | [m0, m1, m2, m3, m4, m5, m6, m7, m8, m9, m10, m11, m12, m13, m14, m15], _ => exact ⟨m0, m1, m2, m3, m4, m5, m6, m7, m8, m9, m10, m11, m12, m13, m14, m15, rfl⟩
theorem gr_mem16 {g : GrV} {m0 m1 m2 m3 m4 m5 m6 m7 m8 m9 m10 m11 m12 m13 m14 m15 : Bool} (h : g.mem.length = 16) (hm : g.mem = [m0, m1, m2, m3, m4, m5, m6, m7, m8, m9, m10, m11, m12, m13, m14, m15]) : 0 + 0 + 16 ≤ (grD g).length ∧ ((grD g).drop (0 + 0)).take 16 = [dB m0, dB m1, dB m2, dB m3, dB m4, dB m5, dB m6, dB m7, dB m8, dB m9, dB m10, dB m11, dB m12, dB m13, dB m14, dB m15] := by
 have := gr_members h
 rw [hm] at this
 exact this
theorem snoc_mem {m0 m1 m2 m3 m4 m5 m6 m7 m8 m9 m10 m11 m12 m13 m14 m15 : Bool} {m : List Bool} (l : List (List Bool)) (hm : m = [m0, m1, m2, m3, m4, m5, m6, m7, m8, m9, m10, m11, m12, m13, m14, m15]) : l.map meD ++ [[dB m0, dB m1, dB m2, dB m3, dB m4, dB m5, dB m6, dB m7, dB m8, dB m9, dB m10, dB m11, dB m12, dB m13, dB m14, dB m15]] = (l ++ [m]).map meD := by rw [List.map_append, hm]; rfl
theorem snoc_mem' {m0 m1 m2 m3 m4 m5 m6 m7 m8 m9 m10 m11 m12 m13 m14 m15 : Bool} {m : List Bool} (l : List (List Bool)) (hm : m = [m0, m1, m2, m3, m4, m5, m6, m7, m8, m9, m10, m11, m12, m13, m14, m15]) : l.map meD ++ [([dB m0, dB m1, dB m2, dB m3, dB m4, dB m5, dB m6, dB m7, dB m8, dB m9, dB m10, dB m11, dB m12, dB m13, dB m14, dB m15] : List DV).take 16] = (l ++ [m]).map meD := snoc_mem l hm
theorem fz_me (l : List (List Bool)) : Fz (l.map meD) (l.map meD) := fz_self _ _ fun a => by simp only [meD, List.map_map]; rfl
theorem gr_fz {g : GrV} {m0 m1 m2 m3 m4 m5 m6 m7 m8 m9 m10 m11 m12 m13 m14 m15 : Bool} (hm : g.mem = [m0, m1, m2, m3, m4, m5, m6, m7, m8, m9, m10, m11, m12, m13, m14, m15]) :
  ([dB m0, dB m1, dB m2, dB m3, dB m4, dB m5, dB m6, dB m7, dB m8, dB m9, dB m10, dB m11, dB m12, dB m13, dB m14, dB m15, dK g.size, .sl (g.holds.map meD), .sl (g.added.map boD), .sl (g.thief.map boD), .sl (g.sent.map seD)] : List DV).map some = (([grD g] : List (List DV)).getD 0 []).map fzD := by
 simp only [List.getD_cons_zero, grD, meD, hm, List.map_cons, List.map_nil, List.cons_append, List.nil_append, fzD, List.drop_zero]
 rw [List.take_of_length_le (by simp), List.take_of_length_le (by simp), List.take_of_length_le (by simp), List.take_of_length_le (by simp)]
theorem i_next (n : Nat) (g : GrV) (b : Bool) (h : g.Wf n) (hl : n ≤ 2 ^ 30) :
  CallN Try.prog id_impl_group_next [.one (.ep (.v 0) 21 0 0), vB b] [.own 21 [grD g]] [] (.tup []) [.own 21 [grD (g.next b)]] := by
 refine F_impl_group_next ?_
 obtain ⟨m0, m1, m2, m3, m4, m5, m6, m7, m8, m9, m10, m11, m12, m13, m14, m15, hm⟩ := sixteen h.mem
 have h1 := h.added
 have h2 := h.thief
 have h3 := h.pos
 have h4 := h.few
 have h16 := h.mem
 cases b
 ·try (conv => whnf)
  repeat' (first
   | (refine Need.mk ?_ ?_; (focus (first | exact fz_me _ | (simp only [List.length_map, List.length_append, List.length_cons, List.length_nil, List.length_replicate]; omega) | rfl | (first | exact fz_self _ _ (fun _ => rfl) | exact fz_pl rfl | (refine Fz.append ?_ ?_ <;> first | exact fz_self _ _ (fun _ => rfl) | exact fz_pl rfl) | (refine Fz.append (Fz.append ?_ ?_) ?_ <;> first | exact fz_self _ _ (fun _ => rfl) | exact fz_pl rfl)) | ((conv => whnf); (repeat (first | (refine Need.mk (by first | rfl | omega | (simp; done)) ?_; conv => whnf) | (refine Pick.mk ?_ ?_ ?_; rotate_left; (focus (first | with_reducible exact xor_u8 _ _ | (with_reducible refine xor_i64 ?_ ?_; all_goals omega) | (with_reducible refine xor_u32 ?_ ?_; all_goals omega) | exact gr_fz hm | exact map_snoc seD _ _ | exact map_snoc boD _ _ | exact map_snoc meD _ _ | (refine grl_sent ?_ _ _ ?_ <;> first | assumption | (simp; done)) | (refine grl_thief ?_ _ _ ?_ <;> first | assumption | (simp; done)) | (refine grl_added ?_ _ _ ?_ <;> first | assumption | (simp; done)) | (refine grl_holds ?_ _ _ ?_ <;> first | assumption | (simp; done)) | exact snoc_mem _ hm | exact snoc_mem' _ hm | (refine gr_mem16 ?_ hm; assumption) | (refine gr_members ?_; assumption) | (with_reducible refine gr_sent ?_; assumption) | (with_reducible refine gr_thief ?_; assumption) | (with_reducible refine gr_added ?_; assumption) | (with_reducible refine gr_holds ?_; assumption) | (with_reducible refine gr_size ?_; assumption) | (with_reducible refine gr_mem ?_ ?_ <;> first | assumption | omega) | assumption | with_reducible exact set_byN _ _ _ _ | with_reducible exact set_byI _ _ _ _ | with_reducible exact set_inN _ _ _ _ | with_reducible exact set_inI _ _ _ _ | with_reducible exact set_stN _ _ _ _ | with_reducible exact set_tsN _ _ _ _ | with_reducible exact set_tsI _ _ _ _ | with_reducible exact set_boN _ _ _ _ | with_reducible exact set_boI _ _ _ _ | (with_reducible refine get_mapN _ _ _ ?_; first | omega | (simp; omega)) | (with_reducible refine get_mapI _ _ _ ?_ ?_ <;> first | omega | (simp; omega)) | exact bs_beq _ _ | exact bs_less _ _ | exact bs_leq _ _ | with_reducible exact bs_app _ _ | (refine bs_get _ _ ?_; omega) | (refine bs_int _ _ ?_ ?_ <;> omega) | with_reducible exact sl_map0 _ _ _ | with_reducible exact sl_mapN _ _ _ | with_reducible exact sl_map _ _ _ _ | exact bs_extract0 _ _ | exact bs_extractN _ _ | exact bs_extract _ _ _ | (refine bnd_id ?_; omega) | (refine bnd_sub ?_ ?_ <;> omega) | (refine bnd_add ?_; omega) | (refine bnd_subN ?_ ?_ <;> omega) | (refine bnd_int ?_ ?_ <;> omega) | ((show @Eq Nat (_ + Int.toNat _ * _) _); simp only [Int.toNat_natCast, Nat.zero_add, Nat.mul_one]; rfl) | ((show @Eq (List _) (List.set [_] _ _) _); simp only [List.set_cons_zero]; rfl) | exact List.length_map _ | exact size_bs _ | (simp only [List.length_map, List.length_append, List.length_cons, List.length_nil, List.length_replicate, Nat.zero_add]; rfl) | with_reducible exact List.nil_append _ | with_reducible exact map_app _ _ _ | exact map_snoc byD _ _ | exact map_snoc inD _ _ | exact map_snoc stD _ _ | exact map_snoc tsD _ _ | (simp only [chunks]; rfl) | (refine wid ?_ ?_ <;> omega) | exact wby _ | with_reducible exact wby32 _ | with_reducible exact wu32 _ | exact wby64 _ | exact shr8 _ | exact shr16 _ | exact shr24 _ | exact shr32 _ | (refine tmodn ?_; omega) | (refine wdiv ?_ ?_ ?_ <;> omega) | exact wbyte _ | exact natlit _ | exact rep_by _ | exact rep_in _ | exact rep_bo _ | exact rep_st _ | (refine pick_nat _ _ _ ?_; omega) | (refine pick_int _ _ _ ?_ ?_ <;> omega) | (refine SlOf.full ?_; first | (simp; done) | (simp; omega)) | (with_reducible refine SlOf.pre _ _ ?_; first | omega | (simp; omega)) | (refine SlF.self _ _ ?_ ?_; (first | rfl | omega | (simp; done) | (simp; omega)); (exact fun _ => rfl)) | (refine SlF.pre _ _ ?_ ?_; (first | omega | (simp; omega)); (exact fun _ => rfl)) | (refine SlF.same ?_ ?_; (first | rfl | omega | (simp; done) | (simp; omega)); (first | exact fz_self _ _ (fun _ => rfl) | exact fz_pl rfl | (refine Fz.append ?_ ?_ <;> first | exact fz_self _ _ (fun _ => rfl) | exact fz_pl rfl) | (refine Fz.append (Fz.append ?_ ?_) ?_ <;> first | exact fz_self _ _ (fun _ => rfl) | exact fz_pl rfl))) | (simp only [Int.toNat_natCast, Nat.zero_add, Nat.mul_one]; rfl) | ((show @Eq (Option CV) _ _); rfl) | ((fail_if_success (show @Eq (Option _) _ _)); rfl) | ((show @Eq (Option _) _ _); simp only [List.getElem?_cons_zero, List.getElem?_cons_succ]; done) | ((show @Eq (Option _) _ _); simp only [List.getElem?_cons_zero, List.getElem?_cons_succ]; rfl) | with_reducible rfl)); conv => whnf))); exact Done.mk trivial))); conv => whnf)
   | (refine Pick.mk ?_ ?_ ?_; rotate_left; (focus (first | exact map_snoc boD _ _ | (refine grl_thief ?_ _ _ ?_ <;> first | assumption | (simp; done)) | (refine grl_added ?_ _ _ ?_ <;> first | assumption | (simp; done)) | (refine grl_holds ?_ _ _ ?_ <;> first | assumption | (simp; done)) | exact snoc_mem _ hm | (refine gr_mem16 ?_ hm; assumption) | (with_reducible refine gr_thief ?_; assumption) | (with_reducible refine gr_added ?_; assumption) | (with_reducible refine gr_holds ?_; assumption) | ((show @Eq (List _) (List.set [_] _ _) _); simp only [List.set_cons_zero]; rfl) | (simp only [List.length_map, List.length_append, List.length_cons, List.length_nil, List.length_replicate, Nat.zero_add]; rfl) | (simp only [chunks]; rfl) | (refine SlOf.full ?_; first | (simp; done) | (simp; omega)) | ((show @Eq (Option _) _ _); simp only [List.getElem?_cons_zero, List.getElem?_cons_succ]; rfl))); conv => whnf)
   | (refine OwnQ.mk true ?_; conv => whnf)
   | (refine br_dec (fun _ => ?_) (fun _ => ?_) <;> first | (exfalso; omega) | contradiction | conv => whnf)
   | (refine br_not ?_; conv => whnf)
   | (refine br_bne (fun _ => ?_) (fun _ => ?_) <;> first | (exfalso; omega) | contradiction | conv => whnf)
   | (refine br_beq (fun _ => ?_) (fun _ => ?_) <;> first | (exfalso; omega) | contradiction | conv => whnf))
  refine Out.mk false [0, 1, 2, 3, 4] [] ?_
  try (conv => whnf)
  exact ⟨rfl, rfl⟩
 ·have c := i_epochD (dB m0) (dB m1) (dB m2) (dB m3) (dB m4) (dB m5) (dB m6) (dB m7) (dB m8) (dB m9) (dB m10) (dB m11) (dB m12) (dB m13) (dB m14) (dB m15) (dK g.size) (.sl (g.added.map boD)) (.sl (g.thief.map boD)) (.sl (g.sent.map seD)) (g.holds.map meD) (by simp; omega)
  rw [List.length_map] at c
  have e : (g.thief[((g.holds.length : Int) - 1).toNat]'(by omega)) = g.thief.getD (g.holds.length - 1) false := by
   rw [List.getD_eq_getElem?_getD, List.getElem?_eq_getElem (by omega)]
   simp only [Option.getD_some]
   congr 1
   omega
  try (conv => whnf)
  repeat (refine Pick.mk ?_ ?_ ?_; rotate_left; (focus (first | (with_reducible refine gr_thief ?_; assumption) | ((show @Eq (Option _) _ _); simp only [List.getElem?_cons_zero, List.getElem?_cons_succ]; rfl))); conv => whnf)
  refine Hand.mk [1000] ?_
  try (conv => whnf)
  repeat (first
   | (refine Need.mk ?_ ?_; (focus ((simp only [List.length_map, List.length_append, List.length_cons, List.length_nil, List.length_replicate]; omega))); conv => whnf)
   | (refine Pick.mk ?_ ?_ ?_; rotate_left; (focus (exact gr_fz hm)); conv => whnf))
  refine CallW.d c ?_
  try (conv => whnf)
  repeat (first
   | (refine Need.mk ?_ ?_; (focus (first | exact fz_me _ | omega | (simp only [List.length_map, List.length_append, List.length_cons, List.length_nil, List.length_replicate]; omega) | rfl | (first | exact fz_self _ _ (fun _ => rfl) | exact fz_pl rfl | (refine Fz.append ?_ ?_ <;> first | exact fz_self _ _ (fun _ => rfl) | exact fz_pl rfl) | (refine Fz.append (Fz.append ?_ ?_) ?_ <;> first | exact fz_self _ _ (fun _ => rfl) | exact fz_pl rfl)) | ((conv => whnf); (repeat (first | (refine Need.mk (by first | rfl | omega | (simp; done)) ?_; conv => whnf) | (refine Pick.mk ?_ ?_ ?_; rotate_left; (focus (first | with_reducible exact xor_u8 _ _ | (with_reducible refine xor_i64 ?_ ?_; all_goals omega) | (with_reducible refine xor_u32 ?_ ?_; all_goals omega) | exact gr_fz hm | exact map_snoc seD _ _ | exact map_snoc boD _ _ | exact map_snoc meD _ _ | (refine grl_sent ?_ _ _ ?_ <;> first | assumption | (simp; done)) | (refine grl_thief ?_ _ _ ?_ <;> first | assumption | (simp; done)) | (refine grl_added ?_ _ _ ?_ <;> first | assumption | (simp; done)) | (refine grl_holds ?_ _ _ ?_ <;> first | assumption | (simp; done)) | exact snoc_mem _ hm | exact snoc_mem' _ hm | (refine gr_mem16 ?_ hm; assumption) | (refine gr_members ?_; assumption) | (with_reducible refine gr_sent ?_; assumption) | (with_reducible refine gr_thief ?_; assumption) | (with_reducible refine gr_added ?_; assumption) | (with_reducible refine gr_holds ?_; assumption) | (with_reducible refine gr_size ?_; assumption) | (with_reducible refine gr_mem ?_ ?_ <;> first | assumption | omega) | assumption | with_reducible exact set_byN _ _ _ _ | with_reducible exact set_byI _ _ _ _ | with_reducible exact set_inN _ _ _ _ | with_reducible exact set_inI _ _ _ _ | with_reducible exact set_stN _ _ _ _ | with_reducible exact set_tsN _ _ _ _ | with_reducible exact set_tsI _ _ _ _ | with_reducible exact set_boN _ _ _ _ | with_reducible exact set_boI _ _ _ _ | (with_reducible refine get_mapN _ _ _ ?_; first | omega | (simp; omega)) | (with_reducible refine get_mapI _ _ _ ?_ ?_ <;> first | omega | (simp; omega)) | exact bs_beq _ _ | exact bs_less _ _ | exact bs_leq _ _ | with_reducible exact bs_app _ _ | (refine bs_get _ _ ?_; omega) | (refine bs_int _ _ ?_ ?_ <;> omega) | with_reducible exact sl_map0 _ _ _ | with_reducible exact sl_mapN _ _ _ | with_reducible exact sl_map _ _ _ _ | exact bs_extract0 _ _ | exact bs_extractN _ _ | exact bs_extract _ _ _ | (refine bnd_id ?_; omega) | (refine bnd_sub ?_ ?_ <;> omega) | (refine bnd_add ?_; omega) | (refine bnd_subN ?_ ?_ <;> omega) | (refine bnd_int ?_ ?_ <;> omega) | ((show @Eq Nat (_ + Int.toNat _ * _) _); simp only [Int.toNat_natCast, Nat.zero_add, Nat.mul_one]; rfl) | ((show @Eq (List _) (List.set [_] _ _) _); simp only [List.set_cons_zero]; rfl) | exact List.length_map _ | exact size_bs _ | (simp only [List.length_map, List.length_append, List.length_cons, List.length_nil, List.length_replicate, Nat.zero_add]; rfl) | with_reducible exact List.nil_append _ | with_reducible exact map_app _ _ _ | exact map_snoc byD _ _ | exact map_snoc inD _ _ | exact map_snoc stD _ _ | exact map_snoc tsD _ _ | (simp only [chunks]; rfl) | (refine wid ?_ ?_ <;> omega) | exact wby _ | with_reducible exact wby32 _ | with_reducible exact wu32 _ | exact wby64 _ | exact shr8 _ | exact shr16 _ | exact shr24 _ | exact shr32 _ | (refine tmodn ?_; omega) | (refine wdiv ?_ ?_ ?_ <;> omega) | exact wbyte _ | exact natlit _ | exact rep_by _ | exact rep_in _ | exact rep_bo _ | exact rep_st _ | (refine pick_nat _ _ _ ?_; omega) | (refine pick_int _ _ _ ?_ ?_ <;> omega) | (refine SlOf.full ?_; first | (simp; done) | (simp; omega)) | (with_reducible refine SlOf.pre _ _ ?_; first | omega | (simp; omega)) | (refine SlF.self _ _ ?_ ?_; (first | rfl | omega | (simp; done) | (simp; omega)); (exact fun _ => rfl)) | (refine SlF.pre _ _ ?_ ?_; (first | omega | (simp; omega)); (exact fun _ => rfl)) | (refine SlF.same ?_ ?_; (first | rfl | omega | (simp; done) | (simp; omega)); (first | exact fz_self _ _ (fun _ => rfl) | exact fz_pl rfl | (refine Fz.append ?_ ?_ <;> first | exact fz_self _ _ (fun _ => rfl) | exact fz_pl rfl) | (refine Fz.append (Fz.append ?_ ?_) ?_ <;> first | exact fz_self _ _ (fun _ => rfl) | exact fz_pl rfl))) | (simp only [Int.toNat_natCast, Nat.zero_add, Nat.mul_one]; rfl) | ((show @Eq (Option CV) _ _); rfl) | ((fail_if_success (show @Eq (Option _) _ _)); rfl) | ((show @Eq (Option _) _ _); simp only [List.getElem?_cons_zero, List.getElem?_cons_succ]; done) | ((show @Eq (Option _) _ _); simp only [List.getElem?_cons_zero, List.getElem?_cons_succ]; rfl) | with_reducible rfl)); conv => whnf))); exact Done.mk trivial))); conv => whnf)
   | (refine Pick.mk ?_ ?_ ?_; rotate_left; (focus (first | exact map_snoc boD _ _ | (refine grl_thief ?_ _ _ ?_ <;> first | assumption | (simp; done)) | (refine grl_added ?_ _ _ ?_ <;> first | assumption | (simp; done)) | (refine grl_holds ?_ _ _ ?_ <;> first | assumption | (simp; done)) | exact snoc_mem _ hm | (refine gr_mem16 ?_ hm; assumption) | (with_reducible refine gr_thief ?_; assumption) | (with_reducible refine gr_added ?_; assumption) | (with_reducible refine gr_holds ?_; assumption) | (with_reducible refine get_mapI _ _ _ ?_ ?_ <;> first | omega | (simp; omega)) | ((show @Eq (List _) (List.set [_] _ _) _); simp only [List.set_cons_zero]; rfl) | (simp only [List.length_map, List.length_append, List.length_cons, List.length_nil, List.length_replicate, Nat.zero_add]; rfl) | (simp only [chunks]; rfl) | (refine SlOf.full ?_; first | (simp; done) | (simp; omega)) | ((show @Eq (Option _) _ _); simp only [List.getElem?_cons_zero, List.getElem?_cons_succ]; rfl))); conv => whnf)
   | (refine OwnQ.mk true ?_; conv => whnf))
  refine Out.mk false [0, 1, 2, 3, 4] [] ?_
  try (conv => whnf)
  refine ⟨rfl, ?_⟩
  simp only [GrV.next, Bool.true_and, ← e]
theorem br_bool {b : Bool} {X Y : Prop} (h1 : b = true → X) (h2 : b = false → Y) : br b X Y := br_split h1 h2
theorem holds_get (g : GrV) (i : Nat) (h : i < g.holds.length) : (g.holds.map meD)[addN 0 (i : Int).toNat]? = some (meD (g.holds.getD i [])) := by
 rw [addN_eq, show 0 + (i : Int).toNat = i by omega, List.getElem?_map, List.getElem?_eq_getElem h]; simp [List.getD, h]
theorem me_get {m : List Bool} (h : m.length = 16) {a : Nat} (ha : a < 16) : (meD m)[a]? = some (dB (m.getD a false)) := by
 simp [meD, List.getD, h, ha]
theorem stealT_len (g : GrV) (a : Nat) : ∀ i, (stealT g a i).length = g.thief.length
 | 0 => rfl
 | i + 1 => by rw [stealT]; split <;> simp [stealT_len g a i]
theorem gr_setT {g : GrV} (h : g.mem.length = 16) (i : Nat) : [(grD g).set (0 + 19) (.ow 1 0 g.thief.length ((g.thief.set i true).map boD))] = [grD { g with thief := g.thief.set i true }] := by
 rw [show 0 + 19 = 16 + 3 from rfl, gr_put h 3]
 simp [grD]
theorem i_steal (n : Nat) (g : GrV) (a : Int) (h : g.Wf n) (hl : n ≤ 2 ^ 30) (ha : 0 ≤ a ∧ a < 16) :
  CallN Try.prog id_impl_group_steal [.one (.ep (.v 0) 21 0 0), vI .i64 a] [.own 21 [grD g]] [] (.tup []) [.own 21 [grD (g.steal a.toNat)]] := by
 refine F_impl_group_steal ?_
 have h1 := h.added
 have h2 := h.thief
 have h4 := h.few
 have h16 := h.mem
 try (conv => whnf)
 repeat (refine Pick.mk ?_ ?_ ?_; rotate_left; (focus (first | (with_reducible refine gr_holds ?_; assumption) | ((show @Eq (Option _) _ _); simp only [List.getElem?_cons_zero, List.getElem?_cons_succ]; rfl))); conv => whnf)
 refine LoopE.mk (fun x : Nat × GrV => mk [(0, .one (.ep (.v 0) 21 0 0)), (1, vI .i64 a), (9, vI .i64 g.holds.length), (10, vI .i64 x.1)] [(0, .own 21 [grD x.2])]) (fun x => x.1 ≤ g.holds.length ∧ x.2 = { g with thief := stealT g a.toNat x.1 }) (fun x => g.holds.length - x.1) (0, g) ⟨by omega, rfl⟩ (LeX.of ?_) ?_
 ·try (conv => whnf)
  repeat (refine Need.mk ?_ ?_; (focus (first | omega | (simp; done))); conv => whnf)
  trivial
 ·rintro ⟨i, G⟩ ⟨hi, hG⟩
  dsimp only at hi hG ⊢
  have f1 : G.holds = g.holds := by rw [hG]
  have f2 : G.added = g.added := by rw [hG]
  have f3 : G.thief = stealT g a.toNat i := by rw [hG]
  have g16 : G.mem.length = 16 := by rw [hG]; exact h16
  have hG3 : ({ g with thief := G.thief } : GrV) = G := by rw [hG]
  have f4 : G.thief.length = g.holds.length := by rw [f3, stealT_len, h2]
  have f5 : G.added.length = g.holds.length := by rw [f2, h1]
  have f6 : G.holds.length = g.holds.length := by rw [f1]
  by_cases hlt : i < g.holds.length
  ·have hg := holds_get G i (by omega)
   have hm16 : (G.holds.getD i []).length = 16 := by
    rw [f1]; simp only [List.getD, List.getElem?_eq_getElem hlt, Option.getD_some]; exact h.holds _ (List.getElem_mem _)
   have hc := me_get hm16 (a := a.toNat) (by omega)
   have hstep := stealT.eq_2 g a.toNat i
   rw [← f1, ← f2, ← f3] at hstep
   have hnext : ∀ {G' : GrV}, G' = { G with thief := stealT g a.toNat (i + 1) } → G' = { g with thief := stealT g a.toNat (i + 1) } := fun e => by rw [e, hG]
   try (conv => whnf)
   repeat' (first
    | (refine Need.mk ?_ ?_; (focus (omega)); conv => whnf)
    | (refine Pick.mk ?_ ?_ ?_; rotate_left; (focus (first | (with_reducible refine gr_holds ?_; assumption) | assumption | ((show @Eq Nat (_ + Int.toNat _ * _) _); simp only [Int.toNat_natCast, Nat.zero_add, Nat.mul_one]; rfl) | ((show @Eq (Option _) _ _); simp only [List.getElem?_cons_zero, List.getElem?_cons_succ]; rfl))); conv => whnf)
    | (refine SeqJ.thru ?_; conv => whnf)
    | (refine br_dec (fun _ => ?_) (fun _ => ?_) <;> first | (exfalso; omega) | contradiction | conv => whnf)
    | (refine br_not ?_; conv => whnf)
    | (refine br_bne (fun _ => ?_) (fun _ => ?_) <;> first | (exfalso; omega) | contradiction | conv => whnf)
    | (refine br_beq (fun _ => ?_) (fun _ => ?_) <;> first | (exfalso; omega) | contradiction | conv => whnf))
   refine br_bool (fun b1 => ?_) (fun b1 => ?_)
   ·rw [if_pos (.inl b1)] at hstep
    try (conv => whnf)
    repeat' (first
     | (refine Need.mk ?_ ?_; (focus (first | omega | (simp only [List.length_map, List.length_append, List.length_cons, List.length_nil, List.length_replicate]; omega))); conv => whnf)
     | (refine Pick.mk ?_ ?_ ?_; rotate_left; (focus (first | (with_reducible refine gr_thief ?_; assumption) | with_reducible exact set_boN _ _ _ _ | (with_reducible refine get_mapN _ _ _ ?_; first | omega | (simp; omega)) | ((show @Eq (List _) (List.set [_] _ _) _); simp only [List.set_cons_zero]; rfl) | (refine wid ?_ ?_ <;> omega) | ((show @Eq (Option _) _ _); simp only [List.getElem?_cons_zero, List.getElem?_cons_succ]; rfl))); conv => whnf)
     | (refine br_dec (fun _ => ?_) (fun _ => ?_) <;> first | (exfalso; omega) | contradiction | conv => whnf)
     | (refine br_not ?_; conv => whnf)
     | (refine br_bne (fun _ => ?_) (fun _ => ?_) <;> first | (exfalso; omega) | contradiction | conv => whnf)
     | (refine br_beq (fun _ => ?_) (fun _ => ?_) <;> first | (exfalso; omega) | contradiction | conv => whnf))
    refine Pick.mk (i + 1, { g with thief := stealT g a.toNat (i + 1) }) ⟨⟨by dsimp only; omega, rfl⟩, by dsimp only; omega⟩ (LeX.of ?_)
    try (conv => whnf)
    repeat (refine Need.mk ?_ ?_; (focus (first | omega | (simp; done))); conv => whnf)
    refine Need.mk (by rw [gr_setT g16, hstep, hG]) ?_
    try (conv => whnf)
    trivial
   ·by_cases h0 : 0 < i
    ·have e2 : G.added.getD i false = G.added[i]'(by omega) := by simp [List.getD, show i < G.added.length by omega]
     have e3 : G.thief.getD (i - 1) false = G.thief[((i : Int) - 1).toNat]'(by omega) := by
      rw [List.getD_eq_getElem?_getD, List.getElem?_eq_getElem (by omega)]
      simp only [Option.getD_some]
      congr 1
      omega
     try (conv => whnf)
     repeat' (first
      | (refine Need.mk ?_ ?_; (focus (omega)); conv => whnf)
      | (refine Pick.mk ?_ ?_ ?_; rotate_left; (focus (first | (with_reducible refine gr_added ?_; assumption) | (with_reducible refine get_mapN _ _ _ ?_; first | omega | (simp; omega)) | ((show @Eq (Option _) _ _); simp only [List.getElem?_cons_zero, List.getElem?_cons_succ]; rfl))); conv => whnf)
      | (refine br_dec (fun _ => ?_) (fun _ => ?_) <;> first | (exfalso; omega) | contradiction | conv => whnf)
      | (refine br_not ?_; conv => whnf)
      | (refine br_bne (fun _ => ?_) (fun _ => ?_) <;> first | (exfalso; omega) | contradiction | conv => whnf)
      | (refine br_beq (fun _ => ?_) (fun _ => ?_) <;> first | (exfalso; omega) | contradiction | conv => whnf))
     refine br_bool (fun b2 => ?_) (fun b2 => ?_)
     ·try (conv => whnf)
      repeat' (first
       | (refine Need.mk ?_ ?_; (focus (omega)); conv => whnf)
       | (refine Pick.mk ?_ ?_ ?_; rotate_left; (focus (first | (with_reducible refine gr_thief ?_; assumption) | (with_reducible refine get_mapI _ _ _ ?_ ?_ <;> first | omega | (simp; omega)) | (refine wid ?_ ?_ <;> omega) | ((show @Eq (Option _) _ _); simp only [List.getElem?_cons_zero, List.getElem?_cons_succ]; rfl))); conv => whnf)
       | (refine br_dec (fun _ => ?_) (fun _ => ?_) <;> first | (exfalso; omega) | contradiction | conv => whnf)
       | (refine br_not ?_; conv => whnf)
       | (refine br_bne (fun _ => ?_) (fun _ => ?_) <;> first | (exfalso; omega) | contradiction | conv => whnf)
       | (refine br_beq (fun _ => ?_) (fun _ => ?_) <;> first | (exfalso; omega) | contradiction | conv => whnf))
      refine br_bool (fun b3 => ?_) (fun b3 => ?_)
      ·rw [if_pos (.inr ⟨h0, by rw [e2, b2], by rw [e3, b3]⟩)] at hstep
       try (conv => whnf)
       repeat' (first
        | (refine Need.mk ?_ ?_; (focus (first | omega | (simp only [List.length_map, List.length_append, List.length_cons, List.length_nil, List.length_replicate]; omega))); conv => whnf)
        | (refine Pick.mk ?_ ?_ ?_; rotate_left; (focus (first | (with_reducible refine gr_thief ?_; assumption) | with_reducible exact set_boN _ _ _ _ | (with_reducible refine get_mapN _ _ _ ?_; first | omega | (simp; omega)) | ((show @Eq (List _) (List.set [_] _ _) _); simp only [List.set_cons_zero]; rfl) | (refine wid ?_ ?_ <;> omega) | ((show @Eq (Option _) _ _); simp only [List.getElem?_cons_zero, List.getElem?_cons_succ]; rfl))); conv => whnf)
        | (refine br_dec (fun _ => ?_) (fun _ => ?_) <;> first | (exfalso; omega) | contradiction | conv => whnf)
        | (refine br_not ?_; conv => whnf)
        | (refine br_bne (fun _ => ?_) (fun _ => ?_) <;> first | (exfalso; omega) | contradiction | conv => whnf)
        | (refine br_beq (fun _ => ?_) (fun _ => ?_) <;> first | (exfalso; omega) | contradiction | conv => whnf))
       refine Pick.mk (i + 1, { g with thief := stealT g a.toNat (i + 1) }) ⟨⟨by dsimp only; omega, rfl⟩, by dsimp only; omega⟩ (LeX.of ?_)
       try (conv => whnf)
       repeat (refine Need.mk ?_ ?_; (focus (first | omega | (simp; done))); conv => whnf)
       refine Need.mk (by rw [gr_setT g16, hstep, hG]) ?_
       try (conv => whnf)
       trivial
      ·rw [if_neg (by rw [b1, e3, b3]; simp)] at hstep
       try (conv => whnf)
       repeat' (first
        | (refine Pick.mk ?_ ?_ ?_; rotate_left; (focus ((refine wid ?_ ?_ <;> omega))); conv => whnf)
        | (refine br_dec (fun _ => ?_) (fun _ => ?_) <;> first | (exfalso; omega) | contradiction | conv => whnf)
        | (refine br_not ?_; conv => whnf)
        | (refine br_bne (fun _ => ?_) (fun _ => ?_) <;> first | (exfalso; omega) | contradiction | conv => whnf)
        | (refine br_beq (fun _ => ?_) (fun _ => ?_) <;> first | (exfalso; omega) | contradiction | conv => whnf))
       refine Pick.mk (i + 1, { g with thief := stealT g a.toNat (i + 1) }) ⟨⟨by dsimp only; omega, rfl⟩, by dsimp only; omega⟩ (LeX.of ?_)
       try (conv => whnf)
       repeat (refine Need.mk ?_ ?_; (focus (first | omega | (simp; done))); conv => whnf)
       refine Need.mk (by dsimp only; rw [hstep, hG3]) ?_
       try (conv => whnf)
       trivial
     ·rw [if_neg (by rw [b1, e2, b2]; simp)] at hstep
      try (conv => whnf)
      repeat' (first
       | (refine Pick.mk ?_ ?_ ?_; rotate_left; (focus ((refine wid ?_ ?_ <;> omega))); conv => whnf)
       | (refine br_dec (fun _ => ?_) (fun _ => ?_) <;> first | (exfalso; omega) | contradiction | conv => whnf)
       | (refine br_not ?_; conv => whnf)
       | (refine br_bne (fun _ => ?_) (fun _ => ?_) <;> first | (exfalso; omega) | contradiction | conv => whnf)
       | (refine br_beq (fun _ => ?_) (fun _ => ?_) <;> first | (exfalso; omega) | contradiction | conv => whnf))
      refine Pick.mk (i + 1, { g with thief := stealT g a.toNat (i + 1) }) ⟨⟨by dsimp only; omega, rfl⟩, by dsimp only; omega⟩ (LeX.of ?_)
      try (conv => whnf)
      repeat (refine Need.mk ?_ ?_; (focus (first | omega | (simp; done))); conv => whnf)
      refine Need.mk (by dsimp only; rw [hstep, hG3]) ?_
      try (conv => whnf)
      trivial
    ·rw [if_neg (by rw [b1]; simp [h0])] at hstep
     try (conv => whnf)
     repeat' (first
      | (refine Pick.mk ?_ ?_ ?_; rotate_left; (focus ((refine wid ?_ ?_ <;> omega))); conv => whnf)
      | (refine br_dec (fun _ => ?_) (fun _ => ?_) <;> first | (exfalso; omega) | contradiction | conv => whnf)
      | (refine br_not ?_; conv => whnf)
      | (refine br_bne (fun _ => ?_) (fun _ => ?_) <;> first | (exfalso; omega) | contradiction | conv => whnf)
      | (refine br_beq (fun _ => ?_) (fun _ => ?_) <;> first | (exfalso; omega) | contradiction | conv => whnf))
     refine Pick.mk (i + 1, { g with thief := stealT g a.toNat (i + 1) }) ⟨⟨by dsimp only; omega, rfl⟩, by dsimp only; omega⟩ (LeX.of ?_)
     try (conv => whnf)
     repeat (refine Need.mk ?_ ?_; (focus (first | omega | (simp; done))); conv => whnf)
     refine Need.mk (by dsimp only; rw [hstep, hG3]) ?_
     try (conv => whnf)
     trivial
  ·try (conv => whnf)
   repeat' (first
    | (refine SeqJ.thru ?_; conv => whnf)
    | (refine br_dec (fun _ => ?_) (fun _ => ?_) <;> first | (exfalso; omega) | contradiction | conv => whnf)
    | (refine br_not ?_; conv => whnf)
    | (refine br_bne (fun _ => ?_) (fun _ => ?_) <;> first | (exfalso; omega) | contradiction | conv => whnf)
    | (refine br_beq (fun _ => ?_) (fun _ => ?_) <;> first | (exfalso; omega) | contradiction | conv => whnf))
   refine Out.mk false [0, 1, 2, 3, 4] [] ?_
   try (conv => whnf)
   have : i = g.holds.length := by omega
   subst this
   exact ⟨rfl, by rw [hG]; rfl⟩
theorem grl_setM {g : GrV} (h : g.mem.length = 16) {a : Nat} (ha : a < 16) (b : Bool) : [grD g].set 0 (splice (grD g) a [dB b]) = [grD { g with mem := g.mem.set a b }] := by
 rw [List.set_cons_zero]
 congr 1
 have hl := gr_len h
 have e : splice (grD g) a [dB b] = (grD g).set a (dB b) := by
  unfold splice
  rw [List.set_eq_take_append_cons_drop (l := grD g) (i := a) (a := dB b), if_pos (by omega)]
  simp
 rw [e]
 simp only [grD, meD]
 rw [List.set_append_left _ _ (by simp; omega), List.map_set]
theorem grl_setS {g : GrV} (h : g.mem.length = 16) (x : Int) : [grD g].set 0 (splice (grD g) 16 [dK x]) = [grD { g with size := x }] := by
 rw [List.set_cons_zero]
 congr 1
 have hl := gr_len h
 have e : splice (grD g) 16 [dK x] = (grD g).set (16 + 0) (dK x) := by
  unfold splice
  rw [List.set_eq_take_append_cons_drop (l := grD g) (i := 16 + 0) (a := dK x), if_pos (by omega)]
  simp
 rw [e, gr_put h 0]; rfl
theorem come_wf {n : Nat} {g : GrV} (h : g.Wf n) (a : Nat) : (g.come a).Wf (n + 1) := by
 have := h.few
 exact ⟨by simp [GrV.come, h.mem], h.holds, h.added, h.thief, h.pos, by simp only [GrV.come]; omega, h.sent⟩
theorem gone_wf {n : Nat} {g : GrV} (h : g.Wf n) (a : Nat) : (g.gone a).Wf (n + 1) := by
 have := h.few
 exact ⟨by simp [GrV.gone, h.mem], h.holds, h.added, h.thief, h.pos, by simp only [GrV.gone]; omega, h.sent⟩
theorem snoc_se (l : List (Int × List UInt8)) (e : Int) (x : List UInt8) : l.map seD ++ [([dK e, .sc (.string (bs x))] : List DV).take 2] = (l ++ [(e, x)]).map seD := by simp [seD]
theorem holds_getI (g : GrV) (e : Int) (h0 : 0 ≤ e) (h : e < g.holds.length) : (g.holds.map meD)[addN 0 e.toNat]? = some (meD (g.holds.getD e.toNat [])) := by
 rw [addN_eq, Nat.zero_add, List.getElem?_map, List.getElem?_eq_getElem (by omega)]; simp [List.getD, show e.toNat < g.holds.length by omega]
abbrev goC (k a n : Int) (x : List UInt8) : SV := .agg [cI k, cI a, cI n, cS (bs x)]
theorem i_run (m : Nat) (g : GrV) (k a n : Int) (x : List UInt8) (h : g.Wf m) (hl : m ≤ 2 ^ 20) (hx : x.length ≤ 2 ^ 40) :
  CallN Try.prog id_impl_group_run [.one (.ep (.v 0) 21 0 0), goC k a n x] [.own 21 [grD g]] [] (.agg [cI (gstep g k a n x).2.1, cI 0, cI (gstep g k a n x).2.2.1, cS (bs (gstep g k a n x).2.2.2)]) [.own 21 [grD (gstep g k a n x).1]] := by
 refine F_impl_group_run ?_
 have h1 := h.added
 have h2 := h.thief
 have h4 := h.few
 have h16 := h.mem
 by_cases ha : 0 ≤ a ∧ a < 16
 rotate_left
 ·have e : gstep g k a n x = (g, 1, 0, []) := if_pos ha
  rw [e]
  try (conv => whnf)
  repeat (refine SeqJ.thru ?_; conv => whnf)
  refine Hand.mk [] ?_
  try (conv => whnf)
  refine CallW.d (i_isActor' a) ?_
  try (conv => whnf)
  try (conv => whnf)
  repeat' (first
   | (refine br_dec (fun _ => ?_) (fun _ => ?_) <;> first | (exfalso; omega) | contradiction | conv => whnf)
   | (refine br_not ?_; conv => whnf)
   | (refine br_bne (fun _ => ?_) (fun _ => ?_) <;> first | (exfalso; omega) | contradiction | conv => whnf)
   | (refine br_beq (fun _ => ?_) (fun _ => ?_) <;> first | (exfalso; omega) | contradiction | conv => whnf))
  refine Out.mk false [0, 1, 2, 3, 4] [] ?_
  try (conv => whnf)
  exact ⟨rfl, rfl⟩
 have hm := gr_mem h16 (a := a.toNat) (by omega)
 have e0 : ¬ ¬ (0 ≤ a ∧ a < 16) := fun h => h ha
 have ha16 : a.toNat < 16 := by omega
 by_cases k1 : k = 1
 ·subst k1
  cases b0 : g.mem.getD a.toNat false
  ·have e : gstep g 1 a n x = ((g.come a.toNat).next true, 0, 0, []) := by rw [gstep, if_neg e0, if_pos rfl, if_neg (by rw [b0]; simp)]
   rw [e]
   try (conv => whnf)
   repeat (refine SeqJ.thru ?_; conv => whnf)
   refine Hand.mk [] ?_
   try (conv => whnf)
   refine CallW.d (i_isActor' a) ?_
   try (conv => whnf)
   try (conv => whnf)
   repeat' (first
    | (refine Need.mk ?_ ?_; (focus (omega)); conv => whnf)
    | (refine Pick.mk ?_ ?_ ?_; rotate_left; (focus (first | (with_reducible refine gr_mem ?_ ?_ <;> first | assumption | omega) | ((show @Eq Nat (_ + Int.toNat _ * _) _); simp only [Int.toNat_natCast, Nat.zero_add, Nat.mul_one]; rfl) | ((show @Eq (Option _) _ _); simp only [List.getElem?_cons_zero, List.getElem?_cons_succ]; rfl))); conv => whnf)
    | (refine SeqJ.thru ?_; conv => whnf)
    | (refine br_dec (fun _ => ?_) (fun _ => ?_) <;> first | (exfalso; omega) | contradiction | conv => whnf)
    | (refine br_not ?_; conv => whnf)
    | (refine br_bne (fun _ => ?_) (fun _ => ?_) <;> first | (exfalso; omega) | contradiction | conv => whnf)
    | (refine br_beq (fun _ => ?_) (fun _ => ?_) <;> first | (exfalso; omega) | contradiction | conv => whnf))
   refine br_false b0 ?_
   have g16 : ({ g with mem := g.mem.set a.toNat true } : GrV).mem.length = 16 := by simp [h16]
   have g17 : ({ g with mem := g.mem.set a.toNat true, size := g.size + 1 } : GrV).mem.length = 16 := by simp [h16]
   try (conv => whnf)
   repeat' (first
    | (refine Need.mk ?_ ?_; (focus (first | omega | (simp only [List.length_map, List.length_append, List.length_cons, List.length_nil, List.length_replicate]; omega))); conv => whnf)
    | (refine Pick.mk ?_ ?_ ?_; rotate_left; (focus (first | (dsimp only; refine wid ?_ ?_ <;> omega) | (refine grl_setS ?_ _; first | assumption | (simp; assumption)) | (refine grl_setM ?_ ?_ _ <;> assumption) | (with_reducible refine gr_size ?_; assumption) | ((show @Eq Nat (_ + Int.toNat _ * _) _); simp only [Int.toNat_natCast, Nat.zero_add, Nat.mul_one]; rfl) | ((show @Eq (Option _) _ _); simp only [List.getElem?_cons_zero, List.getElem?_cons_succ]; rfl))); conv => whnf)
    | (refine br_dec (fun _ => ?_) (fun _ => ?_) <;> first | (exfalso; omega) | contradiction | conv => whnf)
    | (refine br_not ?_; conv => whnf)
    | (refine br_bne (fun _ => ?_) (fun _ => ?_) <;> first | (exfalso; omega) | contradiction | conv => whnf)
    | (refine br_beq (fun _ => ?_) (fun _ => ?_) <;> first | (exfalso; omega) | contradiction | conv => whnf))
   refine Hand.mk [] ?_
   try (conv => whnf)
   refine CallW.k (i_next (m + 1) (g.come a.toNat) true (come_wf h _) (by omega)) ?_
   try (conv => whnf)
   try (conv => whnf)
   repeat' (first
    | (refine br_dec (fun _ => ?_) (fun _ => ?_) <;> first | (exfalso; omega) | contradiction | conv => whnf)
    | (refine br_not ?_; conv => whnf)
    | (refine br_bne (fun _ => ?_) (fun _ => ?_) <;> first | (exfalso; omega) | contradiction | conv => whnf)
    | (refine br_beq (fun _ => ?_) (fun _ => ?_) <;> first | (exfalso; omega) | contradiction | conv => whnf))
   refine Out.mk false [0, 1, 2, 3, 4] [] ?_
   try (conv => whnf)
   exact ⟨rfl, rfl⟩
  ·have e : gstep g 1 a n x = (g, 6, 0, []) := by rw [gstep, if_neg e0, if_pos rfl, if_pos b0]
   rw [e]
   try (conv => whnf)
   repeat (refine SeqJ.thru ?_; conv => whnf)
   refine Hand.mk [] ?_
   try (conv => whnf)
   refine CallW.d (i_isActor' a) ?_
   try (conv => whnf)
   try (conv => whnf)
   repeat' (first
    | (refine Need.mk ?_ ?_; (focus (omega)); conv => whnf)
    | (refine Pick.mk ?_ ?_ ?_; rotate_left; (focus (first | (with_reducible refine gr_mem ?_ ?_ <;> first | assumption | omega) | ((show @Eq Nat (_ + Int.toNat _ * _) _); simp only [Int.toNat_natCast, Nat.zero_add, Nat.mul_one]; rfl) | ((show @Eq (Option _) _ _); simp only [List.getElem?_cons_zero, List.getElem?_cons_succ]; rfl))); conv => whnf)
    | (refine SeqJ.thru ?_; conv => whnf)
    | (refine br_dec (fun _ => ?_) (fun _ => ?_) <;> first | (exfalso; omega) | contradiction | conv => whnf)
    | (refine br_not ?_; conv => whnf)
    | (refine br_bne (fun _ => ?_) (fun _ => ?_) <;> first | (exfalso; omega) | contradiction | conv => whnf)
    | (refine br_beq (fun _ => ?_) (fun _ => ?_) <;> first | (exfalso; omega) | contradiction | conv => whnf))
   refine br_true b0 ?_
   try (conv => whnf)
   repeat' (first
    | (refine br_dec (fun _ => ?_) (fun _ => ?_) <;> first | (exfalso; omega) | contradiction | conv => whnf)
    | (refine br_not ?_; conv => whnf)
    | (refine br_bne (fun _ => ?_) (fun _ => ?_) <;> first | (exfalso; omega) | contradiction | conv => whnf)
    | (refine br_beq (fun _ => ?_) (fun _ => ?_) <;> first | (exfalso; omega) | contradiction | conv => whnf))
   refine Out.mk false [0, 1, 2, 3, 4] [] ?_
   try (conv => whnf)
   exact ⟨rfl, rfl⟩
 by_cases k2 : k = 2
 ·subst k2
  cases b0 : g.mem.getD a.toNat false
  ·have e : gstep g 2 a n x = (g, 7, 0, []) := by rw [gstep, if_neg e0, if_neg (by omega), if_pos (.inl rfl), if_neg (by rw [b0]; simp)]
   rw [e]
   try (conv => whnf)
   repeat (refine SeqJ.thru ?_; conv => whnf)
   refine Hand.mk [] ?_
   try (conv => whnf)
   refine CallW.d (i_isActor' a) ?_
   try (conv => whnf)
   try (conv => whnf)
   repeat' (first
    | (refine Need.mk ?_ ?_; (focus (omega)); conv => whnf)
    | (refine Pick.mk ?_ ?_ ?_; rotate_left; (focus (first | (with_reducible refine gr_mem ?_ ?_ <;> first | assumption | omega) | ((show @Eq Nat (_ + Int.toNat _ * _) _); simp only [Int.toNat_natCast, Nat.zero_add, Nat.mul_one]; rfl) | ((show @Eq (Option _) _ _); simp only [List.getElem?_cons_zero, List.getElem?_cons_succ]; rfl))); conv => whnf)
    | (refine SeqJ.thru ?_; conv => whnf)
    | (refine br_dec (fun _ => ?_) (fun _ => ?_) <;> first | (exfalso; omega) | contradiction | conv => whnf)
    | (refine br_not ?_; conv => whnf)
    | (refine br_bne (fun _ => ?_) (fun _ => ?_) <;> first | (exfalso; omega) | contradiction | conv => whnf)
    | (refine br_beq (fun _ => ?_) (fun _ => ?_) <;> first | (exfalso; omega) | contradiction | conv => whnf))
   refine br_false b0 ?_
   try (conv => whnf)
   repeat' (first
    | (refine br_dec (fun _ => ?_) (fun _ => ?_) <;> first | (exfalso; omega) | contradiction | conv => whnf)
    | (refine br_not ?_; conv => whnf)
    | (refine br_bne (fun _ => ?_) (fun _ => ?_) <;> first | (exfalso; omega) | contradiction | conv => whnf)
    | (refine br_beq (fun _ => ?_) (fun _ => ?_) <;> first | (exfalso; omega) | contradiction | conv => whnf))
   refine Out.mk false [0, 1, 2, 3, 4] [] ?_
   try (conv => whnf)
   exact ⟨rfl, rfl⟩
  ·by_cases hs : g.size = 1
   ·have e : gstep g 2 a n x = (g, 4, 0, []) := by rw [gstep, if_neg e0, if_neg (by omega), if_pos (.inl rfl), if_pos b0, if_pos rfl, if_pos hs]
    rw [e]
    try (conv => whnf)
    repeat (refine SeqJ.thru ?_; conv => whnf)
    refine Hand.mk [] ?_
    try (conv => whnf)
    refine CallW.d (i_isActor' a) ?_
    try (conv => whnf)
    try (conv => whnf)
    repeat' (first
     | (refine Need.mk ?_ ?_; (focus (omega)); conv => whnf)
     | (refine Pick.mk ?_ ?_ ?_; rotate_left; (focus (first | (with_reducible refine gr_mem ?_ ?_ <;> first | assumption | omega) | ((show @Eq Nat (_ + Int.toNat _ * _) _); simp only [Int.toNat_natCast, Nat.zero_add, Nat.mul_one]; rfl) | ((show @Eq (Option _) _ _); simp only [List.getElem?_cons_zero, List.getElem?_cons_succ]; rfl))); conv => whnf)
     | (refine SeqJ.thru ?_; conv => whnf)
     | (refine br_dec (fun _ => ?_) (fun _ => ?_) <;> first | (exfalso; omega) | contradiction | conv => whnf)
     | (refine br_not ?_; conv => whnf)
     | (refine br_bne (fun _ => ?_) (fun _ => ?_) <;> first | (exfalso; omega) | contradiction | conv => whnf)
     | (refine br_beq (fun _ => ?_) (fun _ => ?_) <;> first | (exfalso; omega) | contradiction | conv => whnf))
    refine br_true b0 ?_
    try (conv => whnf)
    repeat' (first
     | (refine Pick.mk ?_ ?_ ?_; rotate_left; (focus (first | (with_reducible refine gr_size ?_; assumption) | ((show @Eq (Option _) _ _); simp only [List.getElem?_cons_zero, List.getElem?_cons_succ]; rfl))); conv => whnf)
     | (refine SeqJ.thru ?_; conv => whnf)
     | (refine br_dec (fun _ => ?_) (fun _ => ?_) <;> first | (exfalso; omega) | contradiction | conv => whnf)
     | (refine br_not ?_; conv => whnf)
     | (refine br_bne (fun _ => ?_) (fun _ => ?_) <;> first | (exfalso; omega) | contradiction | conv => whnf)
     | (refine br_beq (fun _ => ?_) (fun _ => ?_) <;> first | (exfalso; omega) | contradiction | conv => whnf))
    refine Out.mk false [0, 1, 2, 3, 4] [] ?_
    try (conv => whnf)
    exact ⟨rfl, rfl⟩
   ·have e : gstep g 2 a n x = ((g.gone a.toNat).next false, 0, 0, []) := by rw [gstep, if_neg e0, if_neg (by omega), if_pos (.inl rfl), if_pos b0, if_pos rfl, if_neg hs]
    rw [e]
    have g16 : ({ g with mem := g.mem.set a.toNat false } : GrV).mem.length = 16 := by simp [h16]
    have g17 : ({ g with mem := g.mem.set a.toNat false, size := g.size - 1 } : GrV).mem.length = 16 := by simp [h16]
    try (conv => whnf)
    repeat (refine SeqJ.thru ?_; conv => whnf)
    refine Hand.mk [] ?_
    try (conv => whnf)
    refine CallW.d (i_isActor' a) ?_
    try (conv => whnf)
    try (conv => whnf)
    repeat' (first
     | (refine Need.mk ?_ ?_; (focus (omega)); conv => whnf)
     | (refine Pick.mk ?_ ?_ ?_; rotate_left; (focus (first | (with_reducible refine gr_mem ?_ ?_ <;> first | assumption | omega) | ((show @Eq Nat (_ + Int.toNat _ * _) _); simp only [Int.toNat_natCast, Nat.zero_add, Nat.mul_one]; rfl) | ((show @Eq (Option _) _ _); simp only [List.getElem?_cons_zero, List.getElem?_cons_succ]; rfl))); conv => whnf)
     | (refine SeqJ.thru ?_; conv => whnf)
     | (refine br_dec (fun _ => ?_) (fun _ => ?_) <;> first | (exfalso; omega) | contradiction | conv => whnf)
     | (refine br_not ?_; conv => whnf)
     | (refine br_bne (fun _ => ?_) (fun _ => ?_) <;> first | (exfalso; omega) | contradiction | conv => whnf)
     | (refine br_beq (fun _ => ?_) (fun _ => ?_) <;> first | (exfalso; omega) | contradiction | conv => whnf))
    refine br_true b0 ?_
    try (conv => whnf)
    repeat' (first
     | (refine Need.mk ?_ ?_; (focus (first | omega | (simp only [List.length_map, List.length_append, List.length_cons, List.length_nil, List.length_replicate]; omega))); conv => whnf)
     | (refine Pick.mk ?_ ?_ ?_; rotate_left; (focus (first | (dsimp only; refine wid ?_ ?_ <;> omega) | (refine grl_setS ?_ _; first | assumption | (simp; assumption)) | (refine grl_setM ?_ ?_ _ <;> assumption) | (with_reducible refine gr_size ?_; assumption) | ((show @Eq Nat (_ + Int.toNat _ * _) _); simp only [Int.toNat_natCast, Nat.zero_add, Nat.mul_one]; rfl) | ((show @Eq (Option _) _ _); simp only [List.getElem?_cons_zero, List.getElem?_cons_succ]; rfl))); conv => whnf)
     | (refine SeqJ.thru ?_; conv => whnf)
     | (refine br_dec (fun _ => ?_) (fun _ => ?_) <;> first | (exfalso; omega) | contradiction | conv => whnf)
     | (refine br_not ?_; conv => whnf)
     | (refine br_bne (fun _ => ?_) (fun _ => ?_) <;> first | (exfalso; omega) | contradiction | conv => whnf)
     | (refine br_beq (fun _ => ?_) (fun _ => ?_) <;> first | (exfalso; omega) | contradiction | conv => whnf))
    refine Hand.mk [] ?_
    try (conv => whnf)
    refine CallW.k (i_next (m + 1) (g.gone a.toNat) false (gone_wf h _) (by omega)) ?_
    try (conv => whnf)
    try (conv => whnf)
    repeat' (first
     | (refine br_dec (fun _ => ?_) (fun _ => ?_) <;> first | (exfalso; omega) | contradiction | conv => whnf)
     | (refine br_not ?_; conv => whnf)
     | (refine br_bne (fun _ => ?_) (fun _ => ?_) <;> first | (exfalso; omega) | contradiction | conv => whnf)
     | (refine br_beq (fun _ => ?_) (fun _ => ?_) <;> first | (exfalso; omega) | contradiction | conv => whnf))
    refine Out.mk false [0, 1, 2, 3, 4] [] ?_
    try (conv => whnf)
    exact ⟨rfl, rfl⟩
 by_cases k3 : k = 3
 ·subst k3
  cases b0 : g.mem.getD a.toNat false
  ·have e : gstep g 3 a n x = (g, 7, 0, []) := by rw [gstep, if_neg e0, if_neg (by omega), if_pos (.inr rfl), if_neg (by rw [b0]; simp)]
   rw [e]
   try (conv => whnf)
   repeat (refine SeqJ.thru ?_; conv => whnf)
   refine Hand.mk [] ?_
   try (conv => whnf)
   refine CallW.d (i_isActor' a) ?_
   try (conv => whnf)
   try (conv => whnf)
   repeat' (first
    | (refine Need.mk ?_ ?_; (focus (omega)); conv => whnf)
    | (refine Pick.mk ?_ ?_ ?_; rotate_left; (focus (first | (with_reducible refine gr_mem ?_ ?_ <;> first | assumption | omega) | ((show @Eq Nat (_ + Int.toNat _ * _) _); simp only [Int.toNat_natCast, Nat.zero_add, Nat.mul_one]; rfl) | ((show @Eq (Option _) _ _); simp only [List.getElem?_cons_zero, List.getElem?_cons_succ]; rfl))); conv => whnf)
    | (refine SeqJ.thru ?_; conv => whnf)
    | (refine br_dec (fun _ => ?_) (fun _ => ?_) <;> first | (exfalso; omega) | contradiction | conv => whnf)
    | (refine br_not ?_; conv => whnf)
    | (refine br_bne (fun _ => ?_) (fun _ => ?_) <;> first | (exfalso; omega) | contradiction | conv => whnf)
    | (refine br_beq (fun _ => ?_) (fun _ => ?_) <;> first | (exfalso; omega) | contradiction | conv => whnf))
   refine br_false b0 ?_
   try (conv => whnf)
   repeat' (first
    | (refine br_dec (fun _ => ?_) (fun _ => ?_) <;> first | (exfalso; omega) | contradiction | conv => whnf)
    | (refine br_not ?_; conv => whnf)
    | (refine br_bne (fun _ => ?_) (fun _ => ?_) <;> first | (exfalso; omega) | contradiction | conv => whnf)
    | (refine br_beq (fun _ => ?_) (fun _ => ?_) <;> first | (exfalso; omega) | contradiction | conv => whnf))
   refine Out.mk false [0, 1, 2, 3, 4] [] ?_
   try (conv => whnf)
   exact ⟨rfl, rfl⟩
  ·have e : gstep g 3 a n x = (g.next false, 0, 0, []) := by rw [gstep, if_neg e0, if_neg (by omega), if_pos (.inr rfl), if_pos b0, if_neg (by omega)]
   rw [e]
   try (conv => whnf)
   repeat (refine SeqJ.thru ?_; conv => whnf)
   refine Hand.mk [] ?_
   try (conv => whnf)
   refine CallW.d (i_isActor' a) ?_
   try (conv => whnf)
   try (conv => whnf)
   repeat' (first
    | (refine Need.mk ?_ ?_; (focus (omega)); conv => whnf)
    | (refine Pick.mk ?_ ?_ ?_; rotate_left; (focus (first | (with_reducible refine gr_mem ?_ ?_ <;> first | assumption | omega) | ((show @Eq Nat (_ + Int.toNat _ * _) _); simp only [Int.toNat_natCast, Nat.zero_add, Nat.mul_one]; rfl) | ((show @Eq (Option _) _ _); simp only [List.getElem?_cons_zero, List.getElem?_cons_succ]; rfl))); conv => whnf)
    | (refine SeqJ.thru ?_; conv => whnf)
    | (refine br_dec (fun _ => ?_) (fun _ => ?_) <;> first | (exfalso; omega) | contradiction | conv => whnf)
    | (refine br_not ?_; conv => whnf)
    | (refine br_bne (fun _ => ?_) (fun _ => ?_) <;> first | (exfalso; omega) | contradiction | conv => whnf)
    | (refine br_beq (fun _ => ?_) (fun _ => ?_) <;> first | (exfalso; omega) | contradiction | conv => whnf))
   refine br_true b0 ?_
   try (conv => whnf)
   repeat' (first
    | (refine SeqJ.thru ?_; conv => whnf)
    | (refine br_dec (fun _ => ?_) (fun _ => ?_) <;> first | (exfalso; omega) | contradiction | conv => whnf)
    | (refine br_not ?_; conv => whnf)
    | (refine br_bne (fun _ => ?_) (fun _ => ?_) <;> first | (exfalso; omega) | contradiction | conv => whnf)
    | (refine br_beq (fun _ => ?_) (fun _ => ?_) <;> first | (exfalso; omega) | contradiction | conv => whnf))
   refine Hand.mk [] ?_
   try (conv => whnf)
   refine CallW.k (i_next m g false h (by omega)) ?_
   try (conv => whnf)
   try (conv => whnf)
   repeat' (first
    | (refine br_dec (fun _ => ?_) (fun _ => ?_) <;> first | (exfalso; omega) | contradiction | conv => whnf)
    | (refine br_not ?_; conv => whnf)
    | (refine br_bne (fun _ => ?_) (fun _ => ?_) <;> first | (exfalso; omega) | contradiction | conv => whnf)
    | (refine br_beq (fun _ => ?_) (fun _ => ?_) <;> first | (exfalso; omega) | contradiction | conv => whnf))
   refine Out.mk false [0, 1, 2, 3, 4] [] ?_
   try (conv => whnf)
   exact ⟨rfl, rfl⟩
 by_cases k4 : k = 4
 ·subst k4
  cases b0 : g.mem.getD a.toNat false
  ·have e : gstep g 4 a n x = (g, 7, 0, []) := by rw [gstep, if_neg e0, if_neg (by omega), if_neg (by omega), if_pos rfl, if_neg (by rw [b0]; simp)]
   rw [e]
   try (conv => whnf)
   repeat (refine SeqJ.thru ?_; conv => whnf)
   refine Hand.mk [] ?_
   try (conv => whnf)
   refine CallW.d (i_isActor' a) ?_
   try (conv => whnf)
   try (conv => whnf)
   repeat' (first
    | (refine Need.mk ?_ ?_; (focus (omega)); conv => whnf)
    | (refine Pick.mk ?_ ?_ ?_; rotate_left; (focus (first | (with_reducible refine gr_mem ?_ ?_ <;> first | assumption | omega) | ((show @Eq Nat (_ + Int.toNat _ * _) _); simp only [Int.toNat_natCast, Nat.zero_add, Nat.mul_one]; rfl) | ((show @Eq (Option _) _ _); simp only [List.getElem?_cons_zero, List.getElem?_cons_succ]; rfl))); conv => whnf)
    | (refine SeqJ.thru ?_; conv => whnf)
    | (refine br_dec (fun _ => ?_) (fun _ => ?_) <;> first | (exfalso; omega) | contradiction | conv => whnf)
    | (refine br_not ?_; conv => whnf)
    | (refine br_bne (fun _ => ?_) (fun _ => ?_) <;> first | (exfalso; omega) | contradiction | conv => whnf)
    | (refine br_beq (fun _ => ?_) (fun _ => ?_) <;> first | (exfalso; omega) | contradiction | conv => whnf))
   refine br_false b0 ?_
   try (conv => whnf)
   repeat' (first
    | (refine br_dec (fun _ => ?_) (fun _ => ?_) <;> first | (exfalso; omega) | contradiction | conv => whnf)
    | (refine br_not ?_; conv => whnf)
    | (refine br_bne (fun _ => ?_) (fun _ => ?_) <;> first | (exfalso; omega) | contradiction | conv => whnf)
    | (refine br_beq (fun _ => ?_) (fun _ => ?_) <;> first | (exfalso; omega) | contradiction | conv => whnf))
   refine Out.mk false [0, 1, 2, 3, 4] [] ?_
   try (conv => whnf)
   exact ⟨rfl, rfl⟩
  ·by_cases hx2 : x.length > 200
   ·have e : gstep g 4 a n x = (g, 4, 0, []) := by rw [gstep, if_neg e0, if_neg (by omega), if_neg (by omega), if_pos rfl, if_pos b0, if_pos hx2]
    rw [e]
    try (conv => whnf)
    repeat (refine SeqJ.thru ?_; conv => whnf)
    refine Hand.mk [] ?_
    try (conv => whnf)
    refine CallW.d (i_isActor' a) ?_
    try (conv => whnf)
    try (conv => whnf)
    repeat' (first
     | (refine Need.mk ?_ ?_; (focus (omega)); conv => whnf)
     | (refine Pick.mk ?_ ?_ ?_; rotate_left; (focus (first | (with_reducible refine gr_mem ?_ ?_ <;> first | assumption | omega) | ((show @Eq Nat (_ + Int.toNat _ * _) _); simp only [Int.toNat_natCast, Nat.zero_add, Nat.mul_one]; rfl) | ((show @Eq (Option _) _ _); simp only [List.getElem?_cons_zero, List.getElem?_cons_succ]; rfl))); conv => whnf)
     | (refine SeqJ.thru ?_; conv => whnf)
     | (refine br_dec (fun _ => ?_) (fun _ => ?_) <;> first | (exfalso; omega) | contradiction | conv => whnf)
     | (refine br_not ?_; conv => whnf)
     | (refine br_bne (fun _ => ?_) (fun _ => ?_) <;> first | (exfalso; omega) | contradiction | conv => whnf)
     | (refine br_beq (fun _ => ?_) (fun _ => ?_) <;> first | (exfalso; omega) | contradiction | conv => whnf))
    refine br_true b0 ?_
    try (conv => whnf)
    repeat' (first
     | (refine Pick.mk ?_ ?_ ?_; rotate_left; (focus (exact size_bs _)); conv => whnf)
     | (refine br_dec (fun _ => ?_) (fun _ => ?_) <;> first | (exfalso; omega) | contradiction | conv => whnf)
     | (refine br_not ?_; conv => whnf)
     | (refine br_bne (fun _ => ?_) (fun _ => ?_) <;> first | (exfalso; omega) | contradiction | conv => whnf)
     | (refine br_beq (fun _ => ?_) (fun _ => ?_) <;> first | (exfalso; omega) | contradiction | conv => whnf))
    refine Out.mk false [0, 1, 2, 3, 4] [] ?_
    try (conv => whnf)
    exact ⟨rfl, rfl⟩
   ·have e : gstep g 4 a n x = (g.send x, 0, ((g.sent.length + 1 : Nat) : Int), []) := by rw [gstep, if_neg e0, if_neg (by omega), if_neg (by omega), if_pos rfl, if_pos b0, if_neg hx2]
    rw [e]
    obtain ⟨m0, m1, m2, m3, m4, m5, m6, m7, m8, m9, m10, m11, m12, m13, m14, m15, hm'⟩ := sixteen h.mem
    have c := i_epochD (dB m0) (dB m1) (dB m2) (dB m3) (dB m4) (dB m5) (dB m6) (dB m7) (dB m8) (dB m9) (dB m10) (dB m11) (dB m12) (dB m13) (dB m14) (dB m15) (dK g.size) (.sl (g.added.map boD)) (.sl (g.thief.map boD)) (.sl (g.sent.map seD)) (g.holds.map meD) (by simp; omega)
    rw [List.length_map] at c
    try (conv => whnf)
    repeat (refine SeqJ.thru ?_; conv => whnf)
    refine Hand.mk [] ?_
    try (conv => whnf)
    refine CallW.d (i_isActor' a) ?_
    try (conv => whnf)
    try (conv => whnf)
    repeat' (first
     | (refine Need.mk ?_ ?_; (focus (omega)); conv => whnf)
     | (refine Pick.mk ?_ ?_ ?_; rotate_left; (focus (first | (with_reducible refine gr_mem ?_ ?_ <;> first | assumption | omega) | ((show @Eq Nat (_ + Int.toNat _ * _) _); simp only [Int.toNat_natCast, Nat.zero_add, Nat.mul_one]; rfl) | ((show @Eq (Option _) _ _); simp only [List.getElem?_cons_zero, List.getElem?_cons_succ]; rfl))); conv => whnf)
     | (refine SeqJ.thru ?_; conv => whnf)
     | (refine br_dec (fun _ => ?_) (fun _ => ?_) <;> first | (exfalso; omega) | contradiction | conv => whnf)
     | (refine br_not ?_; conv => whnf)
     | (refine br_bne (fun _ => ?_) (fun _ => ?_) <;> first | (exfalso; omega) | contradiction | conv => whnf)
     | (refine br_beq (fun _ => ?_) (fun _ => ?_) <;> first | (exfalso; omega) | contradiction | conv => whnf))
    refine br_true b0 ?_
    try (conv => whnf)
    repeat' (first
     | (refine Pick.mk ?_ ?_ ?_; rotate_left; (focus (first | (with_reducible refine gr_sent ?_; assumption) | exact size_bs _ | ((show @Eq (Option _) _ _); simp only [List.getElem?_cons_zero, List.getElem?_cons_succ]; rfl))); conv => whnf)
     | (refine br_dec (fun _ => ?_) (fun _ => ?_) <;> first | (exfalso; omega) | contradiction | conv => whnf)
     | (refine br_not ?_; conv => whnf)
     | (refine br_bne (fun _ => ?_) (fun _ => ?_) <;> first | (exfalso; omega) | contradiction | conv => whnf)
     | (refine br_beq (fun _ => ?_) (fun _ => ?_) <;> first | (exfalso; omega) | contradiction | conv => whnf))
    refine Hand.mk [1000] ?_
    try (conv => whnf)
    repeat (refine Need.mk ?_ ?_; (focus ((simp only [List.length_map, List.length_append, List.length_cons, List.length_nil, List.length_replicate]; omega))); conv => whnf)
    refine Pick.mk _ (gr_fz hm') ?_
    try (conv => whnf)
    refine CallW.d c ?_
    try (conv => whnf)
    repeat (first
     | (refine Need.mk ?_ ?_; (focus (first | (simp only [List.length_map, List.length_append, List.length_cons, List.length_nil, List.length_replicate]; omega) | rfl | (first | exact fz_self _ _ (fun _ => rfl) | exact fz_pl rfl | (refine Fz.append ?_ ?_ <;> first | exact fz_self _ _ (fun _ => rfl) | exact fz_pl rfl) | (refine Fz.append (Fz.append ?_ ?_) ?_ <;> first | exact fz_self _ _ (fun _ => rfl) | exact fz_pl rfl)) | ((conv => whnf); (repeat (first | (refine Need.mk (by first | rfl | omega | (simp; done)) ?_; conv => whnf) | (refine Pick.mk ?_ ?_ ?_; rotate_left; (focus (first | with_reducible exact xor_u8 _ _ | (with_reducible refine xor_i64 ?_ ?_; all_goals omega) | (with_reducible refine xor_u32 ?_ ?_; all_goals omega) | exact snoc_se _ _ _ | (dsimp only; refine wid ?_ ?_ <;> omega) | (refine grl_setS ?_ _; first | assumption | (simp; assumption)) | (refine grl_setM ?_ ?_ _ <;> assumption) | exact gr_fz hm | exact map_snoc seD _ _ | exact map_snoc boD _ _ | exact map_snoc meD _ _ | (refine grl_sent ?_ _ _ ?_ <;> first | assumption | (simp; done)) | (refine grl_thief ?_ _ _ ?_ <;> first | assumption | (simp; done)) | (refine grl_added ?_ _ _ ?_ <;> first | assumption | (simp; done)) | (refine grl_holds ?_ _ _ ?_ <;> first | assumption | (simp; done)) | exact snoc_mem _ hm | exact snoc_mem' _ hm | (refine gr_mem16 ?_ hm; assumption) | (refine gr_members ?_; assumption) | (with_reducible refine gr_sent ?_; assumption) | (with_reducible refine gr_thief ?_; assumption) | (with_reducible refine gr_added ?_; assumption) | (with_reducible refine gr_holds ?_; assumption) | (with_reducible refine gr_size ?_; assumption) | (with_reducible refine gr_mem ?_ ?_ <;> first | assumption | omega) | assumption | with_reducible exact set_byN _ _ _ _ | with_reducible exact set_byI _ _ _ _ | with_reducible exact set_inN _ _ _ _ | with_reducible exact set_inI _ _ _ _ | with_reducible exact set_stN _ _ _ _ | with_reducible exact set_tsN _ _ _ _ | with_reducible exact set_tsI _ _ _ _ | with_reducible exact set_boN _ _ _ _ | with_reducible exact set_boI _ _ _ _ | (with_reducible refine get_mapN _ _ _ ?_; first | omega | (simp; omega)) | (with_reducible refine get_mapI _ _ _ ?_ ?_ <;> first | omega | (simp; omega)) | exact bs_beq _ _ | exact bs_less _ _ | exact bs_leq _ _ | with_reducible exact bs_app _ _ | (refine bs_get _ _ ?_; omega) | (refine bs_int _ _ ?_ ?_ <;> omega) | with_reducible exact sl_map0 _ _ _ | with_reducible exact sl_mapN _ _ _ | with_reducible exact sl_map _ _ _ _ | exact bs_extract0 _ _ | exact bs_extractN _ _ | exact bs_extract _ _ _ | (refine bnd_id ?_; omega) | (refine bnd_sub ?_ ?_ <;> omega) | (refine bnd_add ?_; omega) | (refine bnd_subN ?_ ?_ <;> omega) | (refine bnd_int ?_ ?_ <;> omega) | ((show @Eq Nat (_ + Int.toNat _ * _) _); simp only [Int.toNat_natCast, Nat.zero_add, Nat.mul_one]; rfl) | ((show @Eq (List _) (List.set [_] _ _) _); simp only [List.set_cons_zero]; rfl) | exact List.length_map _ | exact size_bs _ | (simp only [List.length_map, List.length_append, List.length_cons, List.length_nil, List.length_replicate, Nat.zero_add]; rfl) | with_reducible exact List.nil_append _ | with_reducible exact map_app _ _ _ | exact map_snoc byD _ _ | exact map_snoc inD _ _ | exact map_snoc stD _ _ | exact map_snoc tsD _ _ | (simp only [chunks]; rfl) | (refine wid ?_ ?_ <;> omega) | exact wby _ | with_reducible exact wby32 _ | with_reducible exact wu32 _ | exact wby64 _ | exact shr8 _ | exact shr16 _ | exact shr24 _ | exact shr32 _ | (refine tmodn ?_; omega) | (refine wdiv ?_ ?_ ?_ <;> omega) | exact wbyte _ | exact natlit _ | exact rep_by _ | exact rep_in _ | exact rep_bo _ | exact rep_st _ | (refine pick_nat _ _ _ ?_; omega) | (refine pick_int _ _ _ ?_ ?_ <;> omega) | (refine SlOf.full ?_; first | (simp; done) | (simp; omega)) | (with_reducible refine SlOf.pre _ _ ?_; first | omega | (simp; omega)) | (refine SlF.self _ _ ?_ ?_; (first | rfl | omega | (simp; done) | (simp; omega)); (exact fun _ => rfl)) | (refine SlF.pre _ _ ?_ ?_; (first | omega | (simp; omega)); (exact fun _ => rfl)) | (refine SlF.same ?_ ?_; (first | rfl | omega | (simp; done) | (simp; omega)); (first | exact fz_self _ _ (fun _ => rfl) | exact fz_pl rfl | (refine Fz.append ?_ ?_ <;> first | exact fz_self _ _ (fun _ => rfl) | exact fz_pl rfl) | (refine Fz.append (Fz.append ?_ ?_) ?_ <;> first | exact fz_self _ _ (fun _ => rfl) | exact fz_pl rfl))) | (simp only [Int.toNat_natCast, Nat.zero_add, Nat.mul_one]; rfl) | ((show @Eq (Option CV) _ _); rfl) | ((fail_if_success (show @Eq (Option _) _ _)); rfl) | ((show @Eq (Option _) _ _); simp only [List.getElem?_cons_zero, List.getElem?_cons_succ]; done) | ((show @Eq (Option _) _ _); simp only [List.getElem?_cons_zero, List.getElem?_cons_succ]; rfl) | with_reducible rfl)); conv => whnf))); exact Done.mk trivial))); conv => whnf)
     | (refine Pick.mk ?_ ?_ ?_; rotate_left; (focus (first | exact snoc_se _ _ _ | (refine grl_sent ?_ _ _ ?_ <;> first | assumption | (simp; done)) | (with_reducible refine gr_sent ?_; assumption) | ((show @Eq (List _) (List.set [_] _ _) _); simp only [List.set_cons_zero]; rfl) | (simp only [List.length_map, List.length_append, List.length_cons, List.length_nil, List.length_replicate, Nat.zero_add]; rfl) | (simp only [chunks]; rfl) | (refine SlOf.full ?_; first | (simp; done) | (simp; omega)) | ((show @Eq (Option _) _ _); simp only [List.getElem?_cons_zero, List.getElem?_cons_succ]; rfl))); conv => whnf)
     | (refine OwnQ.mk true ?_; conv => whnf))
    try (conv => whnf)
    repeat' (first
     | (refine br_dec (fun _ => ?_) (fun _ => ?_) <;> first | (exfalso; omega) | contradiction | conv => whnf)
     | (refine br_not ?_; conv => whnf)
     | (refine br_bne (fun _ => ?_) (fun _ => ?_) <;> first | (exfalso; omega) | contradiction | conv => whnf)
     | (refine br_beq (fun _ => ?_) (fun _ => ?_) <;> first | (exfalso; omega) | contradiction | conv => whnf))
    refine Out.mk false [0, 1, 2, 3, 4] [] ?_
    try (conv => whnf)
    exact ⟨by simp only [List.length_append, List.length_singleton]; rfl, rfl⟩
 by_cases k6 : k = 6
 ·subst k6
  have e : gstep g 6 a n x = (g.steal a.toNat, 0, 0, []) := by rw [gstep, if_neg e0, if_neg (by omega), if_neg (by omega), if_neg (by omega), if_neg (by omega), if_pos rfl]
  rw [e]
  try (conv => whnf)
  repeat (refine SeqJ.thru ?_; conv => whnf)
  refine Hand.mk [] ?_
  try (conv => whnf)
  refine CallW.d (i_isActor' a) ?_
  try (conv => whnf)
  try (conv => whnf)
  repeat' (first
   | (refine Need.mk ?_ ?_; (focus (omega)); conv => whnf)
   | (refine Pick.mk ?_ ?_ ?_; rotate_left; (focus (first | (with_reducible refine gr_mem ?_ ?_ <;> first | assumption | omega) | ((show @Eq Nat (_ + Int.toNat _ * _) _); simp only [Int.toNat_natCast, Nat.zero_add, Nat.mul_one]; rfl) | ((show @Eq (Option _) _ _); simp only [List.getElem?_cons_zero, List.getElem?_cons_succ]; rfl))); conv => whnf)
   | (refine SeqJ.thru ?_; conv => whnf)
   | (refine br_dec (fun _ => ?_) (fun _ => ?_) <;> first | (exfalso; omega) | contradiction | conv => whnf)
   | (refine br_not ?_; conv => whnf)
   | (refine br_bne (fun _ => ?_) (fun _ => ?_) <;> first | (exfalso; omega) | contradiction | conv => whnf)
   | (refine br_beq (fun _ => ?_) (fun _ => ?_) <;> first | (exfalso; omega) | contradiction | conv => whnf))
  refine Hand.mk [] ?_
  try (conv => whnf)
  refine CallW.k (i_steal m g a h (by omega) ha) ?_
  try (conv => whnf)
  try (conv => whnf)
  repeat' (first
   | (refine br_dec (fun _ => ?_) (fun _ => ?_) <;> first | (exfalso; omega) | contradiction | conv => whnf)
   | (refine br_not ?_; conv => whnf)
   | (refine br_bne (fun _ => ?_) (fun _ => ?_) <;> first | (exfalso; omega) | contradiction | conv => whnf)
   | (refine br_beq (fun _ => ?_) (fun _ => ?_) <;> first | (exfalso; omega) | contradiction | conv => whnf))
  refine Out.mk false [0, 1, 2, 3, 4] [] ?_
  try (conv => whnf)
  exact ⟨rfl, rfl⟩
 by_cases k57 : k = 5 ∨ k = 7
 rotate_left
 ·have e : gstep g k a n x = (g, 1, 0, []) := by rw [gstep, if_neg e0, if_neg (by omega), if_neg (by omega), if_neg (by omega), if_neg k57, if_neg k6]
  rw [e]
  try (conv => whnf)
  repeat (refine SeqJ.thru ?_; conv => whnf)
  refine Hand.mk [] ?_
  try (conv => whnf)
  refine CallW.d (i_isActor' a) ?_
  try (conv => whnf)
  try (conv => whnf)
  repeat' (first
   | (refine Need.mk ?_ ?_; (focus (omega)); conv => whnf)
   | (refine Pick.mk ?_ ?_ ?_; rotate_left; (focus (first | (with_reducible refine gr_mem ?_ ?_ <;> first | assumption | omega) | ((show @Eq Nat (_ + Int.toNat _ * _) _); simp only [Int.toNat_natCast, Nat.zero_add, Nat.mul_one]; rfl) | ((show @Eq (Option _) _ _); simp only [List.getElem?_cons_zero, List.getElem?_cons_succ]; rfl))); conv => whnf)
   | (refine SeqJ.thru ?_; conv => whnf)
   | (refine br_dec (fun _ => ?_) (fun _ => ?_) <;> first | (exfalso; omega) | contradiction | conv => whnf)
   | (refine br_not ?_; conv => whnf)
   | (refine br_bne (fun _ => ?_) (fun _ => ?_) <;> first | (exfalso; omega) | contradiction | conv => whnf)
   | (refine br_beq (fun _ => ?_) (fun _ => ?_) <;> first | (exfalso; omega) | contradiction | conv => whnf))
  all_goals
   refine Out.mk false [0, 1, 2, 3, 4] [] ?_
   try (conv => whnf)
   exact ⟨rfl, rfl⟩
 have ek : gstep g k a n x = (if n < 1 ∨ n > g.sent.length then (g, 4, 0, []) else
  if k = 5 ∧ ¬ (g.holds.getD (g.sent.getD (n - 1).toNat (0, [])).1.toNat []).getD a.toNat false = true ∨ k = 7 ∧ ¬ g.thief.getD (g.sent.getD (n - 1).toNat (0, [])).1.toNat false = true then (g, 9, 0, []) else (g, 0, 0, (g.sent.getD (n - 1).toNat (0, [])).2)) := by
  rw [gstep, if_neg e0, if_neg (by omega), if_neg (by omega), if_neg (by omega), if_pos k57]
 by_cases hn : n < 1 ∨ n > g.sent.length
 ·rw [ek, if_pos hn]
  rcases k57 with rfl | rfl
  all_goals
   try (conv => whnf)
   repeat (refine SeqJ.thru ?_; conv => whnf)
   refine Hand.mk [] ?_
   try (conv => whnf)
   refine CallW.d (i_isActor' a) ?_
   try (conv => whnf)
   try (conv => whnf)
   repeat' (first
    | (refine Need.mk ?_ ?_; (focus (omega)); conv => whnf)
    | (refine Pick.mk ?_ ?_ ?_; rotate_left; (focus (first | (with_reducible refine gr_sent ?_; assumption) | (with_reducible refine gr_mem ?_ ?_ <;> first | assumption | omega) | ((show @Eq Nat (_ + Int.toNat _ * _) _); simp only [Int.toNat_natCast, Nat.zero_add, Nat.mul_one]; rfl) | ((show @Eq (Option _) _ _); simp only [List.getElem?_cons_zero, List.getElem?_cons_succ]; rfl))); conv => whnf)
    | (refine SeqJ.thru ?_; conv => whnf)
    | (refine br_dec (fun _ => ?_) (fun _ => ?_) <;> first | (exfalso; omega) | contradiction | conv => whnf)
    | (refine br_not ?_; conv => whnf)
    | (refine br_bne (fun _ => ?_) (fun _ => ?_) <;> first | (exfalso; omega) | contradiction | conv => whnf)
    | (refine br_beq (fun _ => ?_) (fun _ => ?_) <;> first | (exfalso; omega) | contradiction | conv => whnf))
  all_goals
   refine Out.mk false [0, 1, 2, 3, 4] [] ?_
   try (conv => whnf)
   exact ⟨rfl, rfl⟩
 rw [ek, if_neg hn]
 have hi : (n - 1).toNat < g.sent.length := by omega
 have eM : g.sent.getD (n - 1).toNat (0, []) = g.sent[(n - 1).toNat] := by rw [List.getD_eq_getElem?_getD, List.getElem?_eq_getElem hi]; rfl
 have hb := h.sent _ (List.getElem_mem hi)
 rw [eM]
 have hg := holds_getI g (g.sent[(n - 1).toNat]).1 hb.1 hb.2
 have hm16 : (g.holds.getD (g.sent[(n - 1).toNat]).1.toNat []).length = 16 := by
  simp only [List.getD, List.getElem?_eq_getElem (show (g.sent[(n - 1).toNat]).1.toNat < g.holds.length by omega), Option.getD_some]; exact h.holds _ (List.getElem_mem _)
 have hc := me_get hm16 (a := a.toNat) (by omega)
 have et : g.thief.getD (g.sent[(n - 1).toNat]).1.toNat false = g.thief[(g.sent[(n - 1).toNat]).1.toNat]'(by omega) := by rw [List.getD_eq_getElem?_getD, List.getElem?_eq_getElem (by omega)]; rfl
 rcases k57 with rfl | rfl
 ·cases b1 : (g.holds.getD (g.sent[(n - 1).toNat]).1.toNat []).getD a.toNat false
  ·rw [if_pos (.inl ⟨rfl, by simp⟩)]
   try (conv => whnf)
   repeat (refine SeqJ.thru ?_; conv => whnf)
   refine Hand.mk [] ?_
   try (conv => whnf)
   refine CallW.d (i_isActor' a) ?_
   try (conv => whnf)
   try (conv => whnf)
   repeat' (first
    | (refine Need.mk ?_ ?_; (focus (first | omega | ((conv => whnf); (repeat (first | (refine Need.mk (by first | rfl | omega | (simp; done)) ?_; conv => whnf) | (refine Pick.mk ?_ ?_ ?_; rotate_left; (focus (first | with_reducible exact xor_u8 _ _ | (with_reducible refine xor_i64 ?_ ?_; all_goals omega) | (with_reducible refine xor_u32 ?_ ?_; all_goals omega) | exact snoc_se _ _ _ | (dsimp only; refine wid ?_ ?_ <;> omega) | (refine grl_setS ?_ _; first | assumption | (simp; assumption)) | (refine grl_setM ?_ ?_ _ <;> assumption) | exact gr_fz hm | exact map_snoc seD _ _ | exact map_snoc boD _ _ | exact map_snoc meD _ _ | (refine grl_sent ?_ _ _ ?_ <;> first | assumption | (simp; done)) | (refine grl_thief ?_ _ _ ?_ <;> first | assumption | (simp; done)) | (refine grl_added ?_ _ _ ?_ <;> first | assumption | (simp; done)) | (refine grl_holds ?_ _ _ ?_ <;> first | assumption | (simp; done)) | exact snoc_mem _ hm | exact snoc_mem' _ hm | (refine gr_mem16 ?_ hm; assumption) | (refine gr_members ?_; assumption) | (with_reducible refine gr_sent ?_; assumption) | (with_reducible refine gr_thief ?_; assumption) | (with_reducible refine gr_added ?_; assumption) | (with_reducible refine gr_holds ?_; assumption) | (with_reducible refine gr_size ?_; assumption) | (with_reducible refine gr_mem ?_ ?_ <;> first | assumption | omega) | assumption | with_reducible exact set_byN _ _ _ _ | with_reducible exact set_byI _ _ _ _ | with_reducible exact set_inN _ _ _ _ | with_reducible exact set_inI _ _ _ _ | with_reducible exact set_stN _ _ _ _ | with_reducible exact set_tsN _ _ _ _ | with_reducible exact set_tsI _ _ _ _ | with_reducible exact set_boN _ _ _ _ | with_reducible exact set_boI _ _ _ _ | (with_reducible refine get_mapN _ _ _ ?_; first | omega | (simp; omega)) | (with_reducible refine get_mapI _ _ _ ?_ ?_ <;> first | omega | (simp; omega)) | exact bs_beq _ _ | exact bs_less _ _ | exact bs_leq _ _ | with_reducible exact bs_app _ _ | (refine bs_get _ _ ?_; omega) | (refine bs_int _ _ ?_ ?_ <;> omega) | with_reducible exact sl_map0 _ _ _ | with_reducible exact sl_mapN _ _ _ | with_reducible exact sl_map _ _ _ _ | exact bs_extract0 _ _ | exact bs_extractN _ _ | exact bs_extract _ _ _ | (refine bnd_id ?_; omega) | (refine bnd_sub ?_ ?_ <;> omega) | (refine bnd_add ?_; omega) | (refine bnd_subN ?_ ?_ <;> omega) | (refine bnd_int ?_ ?_ <;> omega) | ((show @Eq Nat (_ + Int.toNat _ * _) _); simp only [Int.toNat_natCast, Nat.zero_add, Nat.mul_one]; rfl) | ((show @Eq (List _) (List.set [_] _ _) _); simp only [List.set_cons_zero]; rfl) | exact List.length_map _ | exact size_bs _ | (simp only [List.length_map, List.length_append, List.length_cons, List.length_nil, List.length_replicate, Nat.zero_add]; rfl) | with_reducible exact List.nil_append _ | with_reducible exact map_app _ _ _ | exact map_snoc byD _ _ | exact map_snoc inD _ _ | exact map_snoc stD _ _ | exact map_snoc tsD _ _ | (simp only [chunks]; rfl) | (refine wid ?_ ?_ <;> omega) | exact wby _ | with_reducible exact wby32 _ | with_reducible exact wu32 _ | exact wby64 _ | exact shr8 _ | exact shr16 _ | exact shr24 _ | exact shr32 _ | (refine tmodn ?_; omega) | (refine wdiv ?_ ?_ ?_ <;> omega) | exact wbyte _ | exact natlit _ | exact rep_by _ | exact rep_in _ | exact rep_bo _ | exact rep_st _ | (refine pick_nat _ _ _ ?_; omega) | (refine pick_int _ _ _ ?_ ?_ <;> omega) | (refine SlOf.full ?_; first | (simp; done) | (simp; omega)) | (with_reducible refine SlOf.pre _ _ ?_; first | omega | (simp; omega)) | (refine SlF.self _ _ ?_ ?_; (first | rfl | omega | (simp; done) | (simp; omega)); (exact fun _ => rfl)) | (refine SlF.pre _ _ ?_ ?_; (first | omega | (simp; omega)); (exact fun _ => rfl)) | (refine SlF.same ?_ ?_; (first | rfl | omega | (simp; done) | (simp; omega)); (first | exact fz_self _ _ (fun _ => rfl) | exact fz_pl rfl | (refine Fz.append ?_ ?_ <;> first | exact fz_self _ _ (fun _ => rfl) | exact fz_pl rfl) | (refine Fz.append (Fz.append ?_ ?_) ?_ <;> first | exact fz_self _ _ (fun _ => rfl) | exact fz_pl rfl))) | (simp only [Int.toNat_natCast, Nat.zero_add, Nat.mul_one]; rfl) | ((show @Eq (Option CV) _ _); rfl) | ((fail_if_success (show @Eq (Option _) _ _)); rfl) | ((show @Eq (Option _) _ _); simp only [List.getElem?_cons_zero, List.getElem?_cons_succ]; done) | ((show @Eq (Option _) _ _); simp only [List.getElem?_cons_zero, List.getElem?_cons_succ]; rfl) | with_reducible rfl)); conv => whnf))); exact Done.mk trivial))); conv => whnf)
    | (refine Pick.mk ?_ ?_ ?_; rotate_left; (focus (first | (with_reducible refine gr_sent ?_; assumption) | (with_reducible refine gr_holds ?_; assumption) | (with_reducible refine gr_mem ?_ ?_ <;> first | assumption | omega) | assumption | (with_reducible refine get_mapI _ _ _ ?_ ?_ <;> first | omega | (simp; omega)) | ((show @Eq Nat (_ + Int.toNat _ * _) _); simp only [Int.toNat_natCast, Nat.zero_add, Nat.mul_one]; rfl) | (refine wid ?_ ?_ <;> omega) | ((show @Eq (Option _) _ _); simp only [List.getElem?_cons_zero, List.getElem?_cons_succ]; rfl))); conv => whnf)
    | (refine SeqJ.thru ?_; conv => whnf)
    | (refine br_dec (fun _ => ?_) (fun _ => ?_) <;> first | (exfalso; omega) | contradiction | conv => whnf)
    | (refine br_not ?_; conv => whnf)
    | (refine br_bne (fun _ => ?_) (fun _ => ?_) <;> first | (exfalso; omega) | contradiction | conv => whnf)
    | (refine br_beq (fun _ => ?_) (fun _ => ?_) <;> first | (exfalso; omega) | contradiction | conv => whnf))
   refine br_false b1 ?_
   try (conv => whnf)
   repeat' (first
    | (refine br_dec (fun _ => ?_) (fun _ => ?_) <;> first | (exfalso; omega) | contradiction | conv => whnf)
    | (refine br_not ?_; conv => whnf)
    | (refine br_bne (fun _ => ?_) (fun _ => ?_) <;> first | (exfalso; omega) | contradiction | conv => whnf)
    | (refine br_beq (fun _ => ?_) (fun _ => ?_) <;> first | (exfalso; omega) | contradiction | conv => whnf))
   refine Out.mk false [0, 1, 2, 3, 4] [] ?_
   try (conv => whnf)
   exact ⟨rfl, rfl⟩
  ·rw [if_neg (by simp)]
   try (conv => whnf)
   repeat (refine SeqJ.thru ?_; conv => whnf)
   refine Hand.mk [] ?_
   try (conv => whnf)
   refine CallW.d (i_isActor' a) ?_
   try (conv => whnf)
   try (conv => whnf)
   repeat' (first
    | (refine Need.mk ?_ ?_; (focus (first | omega | ((conv => whnf); (repeat (first | (refine Need.mk (by first | rfl | omega | (simp; done)) ?_; conv => whnf) | (refine Pick.mk ?_ ?_ ?_; rotate_left; (focus (first | with_reducible exact xor_u8 _ _ | (with_reducible refine xor_i64 ?_ ?_; all_goals omega) | (with_reducible refine xor_u32 ?_ ?_; all_goals omega) | exact snoc_se _ _ _ | (dsimp only; refine wid ?_ ?_ <;> omega) | (refine grl_setS ?_ _; first | assumption | (simp; assumption)) | (refine grl_setM ?_ ?_ _ <;> assumption) | exact gr_fz hm | exact map_snoc seD _ _ | exact map_snoc boD _ _ | exact map_snoc meD _ _ | (refine grl_sent ?_ _ _ ?_ <;> first | assumption | (simp; done)) | (refine grl_thief ?_ _ _ ?_ <;> first | assumption | (simp; done)) | (refine grl_added ?_ _ _ ?_ <;> first | assumption | (simp; done)) | (refine grl_holds ?_ _ _ ?_ <;> first | assumption | (simp; done)) | exact snoc_mem _ hm | exact snoc_mem' _ hm | (refine gr_mem16 ?_ hm; assumption) | (refine gr_members ?_; assumption) | (with_reducible refine gr_sent ?_; assumption) | (with_reducible refine gr_thief ?_; assumption) | (with_reducible refine gr_added ?_; assumption) | (with_reducible refine gr_holds ?_; assumption) | (with_reducible refine gr_size ?_; assumption) | (with_reducible refine gr_mem ?_ ?_ <;> first | assumption | omega) | assumption | with_reducible exact set_byN _ _ _ _ | with_reducible exact set_byI _ _ _ _ | with_reducible exact set_inN _ _ _ _ | with_reducible exact set_inI _ _ _ _ | with_reducible exact set_stN _ _ _ _ | with_reducible exact set_tsN _ _ _ _ | with_reducible exact set_tsI _ _ _ _ | with_reducible exact set_boN _ _ _ _ | with_reducible exact set_boI _ _ _ _ | (with_reducible refine get_mapN _ _ _ ?_; first | omega | (simp; omega)) | (with_reducible refine get_mapI _ _ _ ?_ ?_ <;> first | omega | (simp; omega)) | exact bs_beq _ _ | exact bs_less _ _ | exact bs_leq _ _ | with_reducible exact bs_app _ _ | (refine bs_get _ _ ?_; omega) | (refine bs_int _ _ ?_ ?_ <;> omega) | with_reducible exact sl_map0 _ _ _ | with_reducible exact sl_mapN _ _ _ | with_reducible exact sl_map _ _ _ _ | exact bs_extract0 _ _ | exact bs_extractN _ _ | exact bs_extract _ _ _ | (refine bnd_id ?_; omega) | (refine bnd_sub ?_ ?_ <;> omega) | (refine bnd_add ?_; omega) | (refine bnd_subN ?_ ?_ <;> omega) | (refine bnd_int ?_ ?_ <;> omega) | ((show @Eq Nat (_ + Int.toNat _ * _) _); simp only [Int.toNat_natCast, Nat.zero_add, Nat.mul_one]; rfl) | ((show @Eq (List _) (List.set [_] _ _) _); simp only [List.set_cons_zero]; rfl) | exact List.length_map _ | exact size_bs _ | (simp only [List.length_map, List.length_append, List.length_cons, List.length_nil, List.length_replicate, Nat.zero_add]; rfl) | with_reducible exact List.nil_append _ | with_reducible exact map_app _ _ _ | exact map_snoc byD _ _ | exact map_snoc inD _ _ | exact map_snoc stD _ _ | exact map_snoc tsD _ _ | (simp only [chunks]; rfl) | (refine wid ?_ ?_ <;> omega) | exact wby _ | with_reducible exact wby32 _ | with_reducible exact wu32 _ | exact wby64 _ | exact shr8 _ | exact shr16 _ | exact shr24 _ | exact shr32 _ | (refine tmodn ?_; omega) | (refine wdiv ?_ ?_ ?_ <;> omega) | exact wbyte _ | exact natlit _ | exact rep_by _ | exact rep_in _ | exact rep_bo _ | exact rep_st _ | (refine pick_nat _ _ _ ?_; omega) | (refine pick_int _ _ _ ?_ ?_ <;> omega) | (refine SlOf.full ?_; first | (simp; done) | (simp; omega)) | (with_reducible refine SlOf.pre _ _ ?_; first | omega | (simp; omega)) | (refine SlF.self _ _ ?_ ?_; (first | rfl | omega | (simp; done) | (simp; omega)); (exact fun _ => rfl)) | (refine SlF.pre _ _ ?_ ?_; (first | omega | (simp; omega)); (exact fun _ => rfl)) | (refine SlF.same ?_ ?_; (first | rfl | omega | (simp; done) | (simp; omega)); (first | exact fz_self _ _ (fun _ => rfl) | exact fz_pl rfl | (refine Fz.append ?_ ?_ <;> first | exact fz_self _ _ (fun _ => rfl) | exact fz_pl rfl) | (refine Fz.append (Fz.append ?_ ?_) ?_ <;> first | exact fz_self _ _ (fun _ => rfl) | exact fz_pl rfl))) | (simp only [Int.toNat_natCast, Nat.zero_add, Nat.mul_one]; rfl) | ((show @Eq (Option CV) _ _); rfl) | ((fail_if_success (show @Eq (Option _) _ _)); rfl) | ((show @Eq (Option _) _ _); simp only [List.getElem?_cons_zero, List.getElem?_cons_succ]; done) | ((show @Eq (Option _) _ _); simp only [List.getElem?_cons_zero, List.getElem?_cons_succ]; rfl) | with_reducible rfl)); conv => whnf))); exact Done.mk trivial))); conv => whnf)
    | (refine Pick.mk ?_ ?_ ?_; rotate_left; (focus (first | (with_reducible refine gr_sent ?_; assumption) | (with_reducible refine gr_holds ?_; assumption) | (with_reducible refine gr_mem ?_ ?_ <;> first | assumption | omega) | assumption | (with_reducible refine get_mapI _ _ _ ?_ ?_ <;> first | omega | (simp; omega)) | ((show @Eq Nat (_ + Int.toNat _ * _) _); simp only [Int.toNat_natCast, Nat.zero_add, Nat.mul_one]; rfl) | (refine wid ?_ ?_ <;> omega) | ((show @Eq (Option _) _ _); simp only [List.getElem?_cons_zero, List.getElem?_cons_succ]; rfl))); conv => whnf)
    | (refine SeqJ.thru ?_; conv => whnf)
    | (refine br_dec (fun _ => ?_) (fun _ => ?_) <;> first | (exfalso; omega) | contradiction | conv => whnf)
    | (refine br_not ?_; conv => whnf)
    | (refine br_bne (fun _ => ?_) (fun _ => ?_) <;> first | (exfalso; omega) | contradiction | conv => whnf)
    | (refine br_beq (fun _ => ?_) (fun _ => ?_) <;> first | (exfalso; omega) | contradiction | conv => whnf))
   refine br_true b1 ?_
   try (conv => whnf)
   repeat' (first
    | (refine br_dec (fun _ => ?_) (fun _ => ?_) <;> first | (exfalso; omega) | contradiction | conv => whnf)
    | (refine br_not ?_; conv => whnf)
    | (refine br_bne (fun _ => ?_) (fun _ => ?_) <;> first | (exfalso; omega) | contradiction | conv => whnf)
    | (refine br_beq (fun _ => ?_) (fun _ => ?_) <;> first | (exfalso; omega) | contradiction | conv => whnf))
   refine Out.mk false [0, 1, 2, 3, 4] [] ?_
   try (conv => whnf)
   exact ⟨rfl, rfl⟩
 ·rw [et]
  cases b1 : g.thief[(g.sent[(n - 1).toNat]).1.toNat]'(by omega)
  ·rw [if_pos (.inr ⟨rfl, by simp⟩)]
   try (conv => whnf)
   repeat (refine SeqJ.thru ?_; conv => whnf)
   refine Hand.mk [] ?_
   try (conv => whnf)
   refine CallW.d (i_isActor' a) ?_
   try (conv => whnf)
   try (conv => whnf)
   repeat' (first
    | (refine Need.mk ?_ ?_; (focus (first | omega | ((conv => whnf); (repeat (first | (refine Need.mk (by first | rfl | omega | (simp; done)) ?_; conv => whnf) | (refine Pick.mk ?_ ?_ ?_; rotate_left; (focus (first | with_reducible exact xor_u8 _ _ | (with_reducible refine xor_i64 ?_ ?_; all_goals omega) | (with_reducible refine xor_u32 ?_ ?_; all_goals omega) | exact snoc_se _ _ _ | (dsimp only; refine wid ?_ ?_ <;> omega) | (refine grl_setS ?_ _; first | assumption | (simp; assumption)) | (refine grl_setM ?_ ?_ _ <;> assumption) | exact gr_fz hm | exact map_snoc seD _ _ | exact map_snoc boD _ _ | exact map_snoc meD _ _ | (refine grl_sent ?_ _ _ ?_ <;> first | assumption | (simp; done)) | (refine grl_thief ?_ _ _ ?_ <;> first | assumption | (simp; done)) | (refine grl_added ?_ _ _ ?_ <;> first | assumption | (simp; done)) | (refine grl_holds ?_ _ _ ?_ <;> first | assumption | (simp; done)) | exact snoc_mem _ hm | exact snoc_mem' _ hm | (refine gr_mem16 ?_ hm; assumption) | (refine gr_members ?_; assumption) | (with_reducible refine gr_sent ?_; assumption) | (with_reducible refine gr_thief ?_; assumption) | (with_reducible refine gr_added ?_; assumption) | (with_reducible refine gr_holds ?_; assumption) | (with_reducible refine gr_size ?_; assumption) | (with_reducible refine gr_mem ?_ ?_ <;> first | assumption | omega) | assumption | with_reducible exact set_byN _ _ _ _ | with_reducible exact set_byI _ _ _ _ | with_reducible exact set_inN _ _ _ _ | with_reducible exact set_inI _ _ _ _ | with_reducible exact set_stN _ _ _ _ | with_reducible exact set_tsN _ _ _ _ | with_reducible exact set_tsI _ _ _ _ | with_reducible exact set_boN _ _ _ _ | with_reducible exact set_boI _ _ _ _ | (with_reducible refine get_mapN _ _ _ ?_; first | omega | (simp; omega)) | (with_reducible refine get_mapI _ _ _ ?_ ?_ <;> first | omega | (simp; omega)) | exact bs_beq _ _ | exact bs_less _ _ | exact bs_leq _ _ | with_reducible exact bs_app _ _ | (refine bs_get _ _ ?_; omega) | (refine bs_int _ _ ?_ ?_ <;> omega) | with_reducible exact sl_map0 _ _ _ | with_reducible exact sl_mapN _ _ _ | with_reducible exact sl_map _ _ _ _ | exact bs_extract0 _ _ | exact bs_extractN _ _ | exact bs_extract _ _ _ | (refine bnd_id ?_; omega) | (refine bnd_sub ?_ ?_ <;> omega) | (refine bnd_add ?_; omega) | (refine bnd_subN ?_ ?_ <;> omega) | (refine bnd_int ?_ ?_ <;> omega) | ((show @Eq Nat (_ + Int.toNat _ * _) _); simp only [Int.toNat_natCast, Nat.zero_add, Nat.mul_one]; rfl) | ((show @Eq (List _) (List.set [_] _ _) _); simp only [List.set_cons_zero]; rfl) | exact List.length_map _ | exact size_bs _ | (simp only [List.length_map, List.length_append, List.length_cons, List.length_nil, List.length_replicate, Nat.zero_add]; rfl) | with_reducible exact List.nil_append _ | with_reducible exact map_app _ _ _ | exact map_snoc byD _ _ | exact map_snoc inD _ _ | exact map_snoc stD _ _ | exact map_snoc tsD _ _ | (simp only [chunks]; rfl) | (refine wid ?_ ?_ <;> omega) | exact wby _ | with_reducible exact wby32 _ | with_reducible exact wu32 _ | exact wby64 _ | exact shr8 _ | exact shr16 _ | exact shr24 _ | exact shr32 _ | (refine tmodn ?_; omega) | (refine wdiv ?_ ?_ ?_ <;> omega) | exact wbyte _ | exact natlit _ | exact rep_by _ | exact rep_in _ | exact rep_bo _ | exact rep_st _ | (refine pick_nat _ _ _ ?_; omega) | (refine pick_int _ _ _ ?_ ?_ <;> omega) | (refine SlOf.full ?_; first | (simp; done) | (simp; omega)) | (with_reducible refine SlOf.pre _ _ ?_; first | omega | (simp; omega)) | (refine SlF.self _ _ ?_ ?_; (first | rfl | omega | (simp; done) | (simp; omega)); (exact fun _ => rfl)) | (refine SlF.pre _ _ ?_ ?_; (first | omega | (simp; omega)); (exact fun _ => rfl)) | (refine SlF.same ?_ ?_; (first | rfl | omega | (simp; done) | (simp; omega)); (first | exact fz_self _ _ (fun _ => rfl) | exact fz_pl rfl | (refine Fz.append ?_ ?_ <;> first | exact fz_self _ _ (fun _ => rfl) | exact fz_pl rfl) | (refine Fz.append (Fz.append ?_ ?_) ?_ <;> first | exact fz_self _ _ (fun _ => rfl) | exact fz_pl rfl))) | (simp only [Int.toNat_natCast, Nat.zero_add, Nat.mul_one]; rfl) | ((show @Eq (Option CV) _ _); rfl) | ((fail_if_success (show @Eq (Option _) _ _)); rfl) | ((show @Eq (Option _) _ _); simp only [List.getElem?_cons_zero, List.getElem?_cons_succ]; done) | ((show @Eq (Option _) _ _); simp only [List.getElem?_cons_zero, List.getElem?_cons_succ]; rfl) | with_reducible rfl)); conv => whnf))); exact Done.mk trivial))); conv => whnf)
    | (refine Pick.mk ?_ ?_ ?_; rotate_left; (focus (first | (with_reducible refine gr_sent ?_; assumption) | (with_reducible refine gr_thief ?_; assumption) | (with_reducible refine gr_mem ?_ ?_ <;> first | assumption | omega) | (with_reducible refine get_mapI _ _ _ ?_ ?_ <;> first | omega | (simp; omega)) | ((show @Eq Nat (_ + Int.toNat _ * _) _); simp only [Int.toNat_natCast, Nat.zero_add, Nat.mul_one]; rfl) | (refine wid ?_ ?_ <;> omega) | ((show @Eq (Option _) _ _); simp only [List.getElem?_cons_zero, List.getElem?_cons_succ]; rfl))); conv => whnf)
    | (refine SeqJ.thru ?_; conv => whnf)
    | (refine br_dec (fun _ => ?_) (fun _ => ?_) <;> first | (exfalso; omega) | contradiction | conv => whnf)
    | (refine br_not ?_; conv => whnf)
    | (refine br_bne (fun _ => ?_) (fun _ => ?_) <;> first | (exfalso; omega) | contradiction | conv => whnf)
    | (refine br_beq (fun _ => ?_) (fun _ => ?_) <;> first | (exfalso; omega) | contradiction | conv => whnf))
   refine br_false b1 ?_
   try (conv => whnf)
   repeat' (first
    | (refine br_dec (fun _ => ?_) (fun _ => ?_) <;> first | (exfalso; omega) | contradiction | conv => whnf)
    | (refine br_not ?_; conv => whnf)
    | (refine br_bne (fun _ => ?_) (fun _ => ?_) <;> first | (exfalso; omega) | contradiction | conv => whnf)
    | (refine br_beq (fun _ => ?_) (fun _ => ?_) <;> first | (exfalso; omega) | contradiction | conv => whnf))
   refine Out.mk false [0, 1, 2, 3, 4] [] ?_
   try (conv => whnf)
   exact ⟨rfl, rfl⟩
  ·rw [if_neg (by simp)]
   try (conv => whnf)
   repeat (refine SeqJ.thru ?_; conv => whnf)
   refine Hand.mk [] ?_
   try (conv => whnf)
   refine CallW.d (i_isActor' a) ?_
   try (conv => whnf)
   try (conv => whnf)
   repeat' (first
    | (refine Need.mk ?_ ?_; (focus (first | omega | ((conv => whnf); (repeat (first | (refine Need.mk (by first | rfl | omega | (simp; done)) ?_; conv => whnf) | (refine Pick.mk ?_ ?_ ?_; rotate_left; (focus (first | with_reducible exact xor_u8 _ _ | (with_reducible refine xor_i64 ?_ ?_; all_goals omega) | (with_reducible refine xor_u32 ?_ ?_; all_goals omega) | exact snoc_se _ _ _ | (dsimp only; refine wid ?_ ?_ <;> omega) | (refine grl_setS ?_ _; first | assumption | (simp; assumption)) | (refine grl_setM ?_ ?_ _ <;> assumption) | exact gr_fz hm | exact map_snoc seD _ _ | exact map_snoc boD _ _ | exact map_snoc meD _ _ | (refine grl_sent ?_ _ _ ?_ <;> first | assumption | (simp; done)) | (refine grl_thief ?_ _ _ ?_ <;> first | assumption | (simp; done)) | (refine grl_added ?_ _ _ ?_ <;> first | assumption | (simp; done)) | (refine grl_holds ?_ _ _ ?_ <;> first | assumption | (simp; done)) | exact snoc_mem _ hm | exact snoc_mem' _ hm | (refine gr_mem16 ?_ hm; assumption) | (refine gr_members ?_; assumption) | (with_reducible refine gr_sent ?_; assumption) | (with_reducible refine gr_thief ?_; assumption) | (with_reducible refine gr_added ?_; assumption) | (with_reducible refine gr_holds ?_; assumption) | (with_reducible refine gr_size ?_; assumption) | (with_reducible refine gr_mem ?_ ?_ <;> first | assumption | omega) | assumption | with_reducible exact set_byN _ _ _ _ | with_reducible exact set_byI _ _ _ _ | with_reducible exact set_inN _ _ _ _ | with_reducible exact set_inI _ _ _ _ | with_reducible exact set_stN _ _ _ _ | with_reducible exact set_tsN _ _ _ _ | with_reducible exact set_tsI _ _ _ _ | with_reducible exact set_boN _ _ _ _ | with_reducible exact set_boI _ _ _ _ | (with_reducible refine get_mapN _ _ _ ?_; first | omega | (simp; omega)) | (with_reducible refine get_mapI _ _ _ ?_ ?_ <;> first | omega | (simp; omega)) | exact bs_beq _ _ | exact bs_less _ _ | exact bs_leq _ _ | with_reducible exact bs_app _ _ | (refine bs_get _ _ ?_; omega) | (refine bs_int _ _ ?_ ?_ <;> omega) | with_reducible exact sl_map0 _ _ _ | with_reducible exact sl_mapN _ _ _ | with_reducible exact sl_map _ _ _ _ | exact bs_extract0 _ _ | exact bs_extractN _ _ | exact bs_extract _ _ _ | (refine bnd_id ?_; omega) | (refine bnd_sub ?_ ?_ <;> omega) | (refine bnd_add ?_; omega) | (refine bnd_subN ?_ ?_ <;> omega) | (refine bnd_int ?_ ?_ <;> omega) | ((show @Eq Nat (_ + Int.toNat _ * _) _); simp only [Int.toNat_natCast, Nat.zero_add, Nat.mul_one]; rfl) | ((show @Eq (List _) (List.set [_] _ _) _); simp only [List.set_cons_zero]; rfl) | exact List.length_map _ | exact size_bs _ | (simp only [List.length_map, List.length_append, List.length_cons, List.length_nil, List.length_replicate, Nat.zero_add]; rfl) | with_reducible exact List.nil_append _ | with_reducible exact map_app _ _ _ | exact map_snoc byD _ _ | exact map_snoc inD _ _ | exact map_snoc stD _ _ | exact map_snoc tsD _ _ | (simp only [chunks]; rfl) | (refine wid ?_ ?_ <;> omega) | exact wby _ | with_reducible exact wby32 _ | with_reducible exact wu32 _ | exact wby64 _ | exact shr8 _ | exact shr16 _ | exact shr24 _ | exact shr32 _ | (refine tmodn ?_; omega) | (refine wdiv ?_ ?_ ?_ <;> omega) | exact wbyte _ | exact natlit _ | exact rep_by _ | exact rep_in _ | exact rep_bo _ | exact rep_st _ | (refine pick_nat _ _ _ ?_; omega) | (refine pick_int _ _ _ ?_ ?_ <;> omega) | (refine SlOf.full ?_; first | (simp; done) | (simp; omega)) | (with_reducible refine SlOf.pre _ _ ?_; first | omega | (simp; omega)) | (refine SlF.self _ _ ?_ ?_; (first | rfl | omega | (simp; done) | (simp; omega)); (exact fun _ => rfl)) | (refine SlF.pre _ _ ?_ ?_; (first | omega | (simp; omega)); (exact fun _ => rfl)) | (refine SlF.same ?_ ?_; (first | rfl | omega | (simp; done) | (simp; omega)); (first | exact fz_self _ _ (fun _ => rfl) | exact fz_pl rfl | (refine Fz.append ?_ ?_ <;> first | exact fz_self _ _ (fun _ => rfl) | exact fz_pl rfl) | (refine Fz.append (Fz.append ?_ ?_) ?_ <;> first | exact fz_self _ _ (fun _ => rfl) | exact fz_pl rfl))) | (simp only [Int.toNat_natCast, Nat.zero_add, Nat.mul_one]; rfl) | ((show @Eq (Option CV) _ _); rfl) | ((fail_if_success (show @Eq (Option _) _ _)); rfl) | ((show @Eq (Option _) _ _); simp only [List.getElem?_cons_zero, List.getElem?_cons_succ]; done) | ((show @Eq (Option _) _ _); simp only [List.getElem?_cons_zero, List.getElem?_cons_succ]; rfl) | with_reducible rfl)); conv => whnf))); exact Done.mk trivial))); conv => whnf)
    | (refine Pick.mk ?_ ?_ ?_; rotate_left; (focus (first | (with_reducible refine gr_sent ?_; assumption) | (with_reducible refine gr_thief ?_; assumption) | (with_reducible refine gr_mem ?_ ?_ <;> first | assumption | omega) | (with_reducible refine get_mapI _ _ _ ?_ ?_ <;> first | omega | (simp; omega)) | ((show @Eq Nat (_ + Int.toNat _ * _) _); simp only [Int.toNat_natCast, Nat.zero_add, Nat.mul_one]; rfl) | (refine wid ?_ ?_ <;> omega) | ((show @Eq (Option _) _ _); simp only [List.getElem?_cons_zero, List.getElem?_cons_succ]; rfl))); conv => whnf)
    | (refine SeqJ.thru ?_; conv => whnf)
    | (refine br_dec (fun _ => ?_) (fun _ => ?_) <;> first | (exfalso; omega) | contradiction | conv => whnf)
    | (refine br_not ?_; conv => whnf)
    | (refine br_bne (fun _ => ?_) (fun _ => ?_) <;> first | (exfalso; omega) | contradiction | conv => whnf)
    | (refine br_beq (fun _ => ?_) (fun _ => ?_) <;> first | (exfalso; omega) | contradiction | conv => whnf))
   refine br_true b1 ?_
   try (conv => whnf)
   repeat' (first
    | (refine br_dec (fun _ => ?_) (fun _ => ?_) <;> first | (exfalso; omega) | contradiction | conv => whnf)
    | (refine br_not ?_; conv => whnf)
    | (refine br_bne (fun _ => ?_) (fun _ => ?_) <;> first | (exfalso; omega) | contradiction | conv => whnf)
    | (refine br_beq (fun _ => ?_) (fun _ => ?_) <;> first | (exfalso; omega) | contradiction | conv => whnf))
   refine Out.mk false [0, 1, 2, 3, 4] [] ?_
   try (conv => whnf)
   exact ⟨rfl, rfl⟩
theorem next_wf {n : Nat} {g : GrV} (h : g.Wf n) (b : Bool) : (g.next b).Wf (n + 1) := by
 have := h.few
 refine ⟨h.mem, fun m hm => ?_, by simp [GrV.next, h.added], by simp [GrV.next, h.thief], by simp [GrV.next], by simp only [GrV.next, List.length_append, List.length_singleton]; omega, fun e he => ?_⟩
 ·rcases List.mem_append.1 hm with hm | hm
  ·exact h.holds m hm
  ·simp only [List.mem_singleton] at hm; subst hm; exact h.mem
 ·have := h.sent e he
  simp only [GrV.next, List.length_append, List.length_singleton]
  omega
theorem Wf.mono {n m : Nat} {g : GrV} (h : g.Wf n) (hm : n ≤ m) : g.Wf m := ⟨h.mem, h.holds, h.added, h.thief, h.pos, by have := h.few; omega, h.sent⟩
theorem gstep_wf {m : Nat} {g : GrV} (h : g.Wf m) (k a n : Int) (x : List UInt8) : (gstep g k a n x).1.Wf (m + 2) := by
 have h0 : g.Wf (m + 2) := Wf.mono h (by omega)
 unfold gstep
 repeat' split
 all_goals first
  | exact h0
  | exact next_wf (come_wf h _) _
  | exact next_wf (gone_wf h _) _
  | exact Wf.mono (next_wf h _) (by omega)
  | exact ⟨h.mem, h.holds, h.added, by simp only [GrV.steal]; rw [stealT_len]; exact h.thief, h.pos, by have := h.few; simp only [GrV.steal]; omega, h.sent⟩
  | exact ⟨h.mem, h.holds, h.added, h.thief, h.pos, by have := h.few; simp only [GrV.send, List.length_append, List.length_singleton]; omega, fun e he => by
    rcases List.mem_append.1 he with he | he
    ·exact h.sent e he
    ·simp only [List.mem_singleton] at he
     subst he
     have := h.pos
     simp only [GrV.send]
     omega⟩
end Go.Proofs.Ytpdjehnlejjfmaa.D
/- A choice that some bytes make. -/
namespace Go.Proofs.Ytpdjehnlejjfmaa.D
open Go.RowKit
set_option maxRecDepth 100000
set_option linter.unusedVariables false
set_option linter.unusedSimpArgs false
theorem l_at (l : List UInt8) (i n : Int) (hl : l.length ≤ 2 ^ 40) (h0 : 0 ≤ i) (h1 : i ≤ 2 ^ 40) (hn : n ≤ 2 ^ 62) :
  CallM Try.prog id_laws_at [vY l, vI .i64 i, vI .i64 n] [] [] true fun r Lo => ∃ v, Lo = [] ∧ r = vI .i64 v ∧ 0 ≤ v ∧ (v < n ∨ v = 0) := by
 refine F_laws_at ?_
 have e1 : (l.length : Int) ≠ 0 → 0 ≤ i % l.length ∧ i % l.length < l.length := fun h => ⟨Int.emod_nonneg _ h, Int.emod_lt_of_pos _ (by omega)⟩
 have e2 : (l.length : Int) ≠ 0 → 0 ≤ (i + 1) % l.length ∧ (i + 1) % l.length < l.length := fun h => ⟨Int.emod_nonneg _ h, Int.emod_lt_of_pos _ (by omega)⟩
 have e4 : ∀ x : Int, 0 < n → 0 ≤ x % n ∧ x % n < n := fun x h => ⟨Int.emod_nonneg _ (by omega), Int.emod_lt_of_pos _ h⟩
 try (conv => whnf)
 repeat' (first
  | (refine Need.mk ?_ ?_; (focus (omega)); conv => whnf)
  | (refine Pick.mk ?_ ?_ ?_; rotate_left; (focus (first | exact List.length_map _ | (refine wid ?_ ?_ <;> omega) | exact wby _ | (refine tmodn ?_; omega) | (refine wdiv ?_ ?_ ?_ <;> omega) | (refine pick_int _ _ _ ?_ ?_ <;> omega) | ((fail_if_success (show @Eq (Option _) _ _)); rfl))); conv => whnf)
  | (refine SeqJ.thru ?_; conv => whnf)
  | (refine br_dec (fun _ => ?_) (fun _ => ?_) <;> first | (exfalso; omega) | contradiction | conv => whnf)
  | (refine br_not ?_; conv => whnf)
  | (refine br_bne (fun _ => ?_) (fun _ => ?_) <;> first | (exfalso; omega) | contradiction | conv => whnf)
  | (refine br_beq (fun _ => ?_) (fun _ => ?_) <;> first | (exfalso; omega) | contradiction | conv => whnf))
 ·refine Out.mk false [0, 1, 2, 3, 4] [] ?_
  try (conv => whnf)
  exact ⟨_, rfl, rfl, by omega, by omega⟩
 ·refine Out.mk false [0, 1, 2, 3, 4] [] ?_
  try (conv => whnf)
  have := e4 (i * 7) (by omega)
  exact ⟨_, rfl, rfl, by omega, by omega⟩
 ·refine Out.mk false [0, 1, 2, 3, 4] [] ?_
  try (conv => whnf)
  have b1 := byLt (l[(i % (l.length : Int)).toNat]'(by omega))
  have b2 := byLt (l[((i + 1) % (l.length : Int)).toNat]'(by omega))
  have d1 : 0 ≤ i / (l.length : Int) := Int.ediv_nonneg h0 (by omega)
  have d2 := Int.ediv_le_self (l.length : Int) h0
  rw [wid (x := _ * 31) (by omega) (by omega), wid (x := _ + ((l[((i + 1) % (l.length : Int)).toNat]'(by omega)).toNat : Int)) (by omega) (by omega), wid (by omega) (by omega), Int.tmod_eq_emod_of_nonneg (by omega)]
  have := e4 (((l[(i % (l.length : Int)).toNat]'(by omega)).toNat : Int) * 31 + ((l[((i + 1) % (l.length : Int)).toNat]'(by omega)).toNat : Int) + i / (l.length : Int)) (by omega)
  exact ⟨_, rfl, rfl, by omega, by omega⟩
end Go.Proofs.Ytpdjehnlejjfmaa.D
/- What the laws do with bytes: copied, compared, marked. -/
namespace Go.Proofs.Ytpdjehnlejjfmaa.D
open Go.RowKit
set_option maxRecDepth 100000
set_option linter.unusedVariables false
set_option linter.unusedSimpArgs false

def marks (k : Int) (n : Nat) : List UInt8 := (List.range n).map fun (i : Nat) => u8 (k + i)
@[simp] theorem marks_length (k : Int) (n : Nat) : (marks k n).length = n := by simp [marks]
end Go.Proofs.Ytpdjehnlejjfmaa.D
/- The group's runs. -/
namespace Go.Proofs.Ytpdjehnlejjfmaa.D
open Go.RowKit
set_option maxRecDepth 100000
set_option maxHeartbeats 4000000
set_option linter.unusedVariables false
set_option linter.unusedSimpArgs false

structure GoV where
 k : Int
 a : Int
 n : Int
 x : List UInt8
abbrev goD (o : GoV) : List DV := [dK o.k, dK o.a, dK o.n, .sc (.string (bs o.x))]
structure GbV where
 c : Int
 e : Int
 i : Int
 x : List UInt8
abbrev gbD (o : GbV) : List DV := [dK o.c, dK o.e, dK o.i, .sc (.string (bs o.x))]
def gobs (g : GrV) (o : GoV) : GbV := ⟨(gstep g o.k o.a o.n o.x).2.1, ((gstep g o.k o.a o.n o.x).1.holds.length : Int) - 1, (gstep g o.k o.a o.n o.x).2.2.1, (gstep g o.k o.a o.n o.x).2.2.2⟩
def gruns : GrV → List GoV → List GbV
 | _, [] => []
 | g, o :: os => gobs g o :: gruns (gstep g o.k o.a o.n o.x).1 os
def gend : GrV → List GoV → GrV
 | g, [] => g
 | g, o :: os => gend (gstep g o.k o.a o.n o.x).1 os
def g0 : GrV := ⟨true :: List.replicate 15 false, 1, [true :: List.replicate 15 false], [false], [false], []⟩
theorem gruns_snoc (g : GrV) : ∀ (os : List GoV) (o : GoV), gruns g (os ++ [o]) = gruns g os ++ [gobs (gend g os) o] ∧ gend g (os ++ [o]) = (gstep (gend g os) o.k o.a o.n o.x).1
 | [], o => ⟨rfl, rfl⟩
 |q :: os, o => by
  obtain ⟨h1, h2⟩ := gruns_snoc (gstep g q.k q.a q.n q.x).1 os o
  exact ⟨by simp only [List.cons_append, gruns, gend, h1], by simp only [List.cons_append, gend, h2]⟩
theorem gruns_take (g : GrV) (os : List GoV) (i : Nat) (h : i < os.length) : gruns g (os.take (i + 1)) = gruns g (os.take i) ++ [gobs (gend g (os.take i)) os[i]] ∧ gend g (os.take (i + 1)) = (gstep (gend g (os.take i)) os[i].k os[i].a os[i].n os[i].x).1 := by
 rw [List.take_succ_eq_append_getElem h]
 exact gruns_snoc g _ _
theorem gruns_len (g : GrV) : ∀ os : List GoV, (gruns g os).length = os.length
 | [] => rfl
 | o :: os => by simp only [gruns, List.length_cons, gruns_len _ os]
theorem gend_wf {m : Nat} : ∀ {g : GrV} (os : List GoV), g.Wf m → (gend g os).Wf (m + 2 * os.length)
 | g, [], h => h
 |g, o :: os, h => by
  have := gend_wf os (gstep_wf h o.k o.a o.n o.x)
  simp only [gend, List.length_cons]
  rwa [show m + 2 * (os.length + 1) = m + 2 + 2 * os.length by omega]
theorem g0_wf : g0.Wf 2 := ⟨by decide, by decide, by decide, by decide, by decide, by decide, by decide⟩
theorem flat_gb (l : List GbV) : flatEs (l.map gbD) := fun e he d hd => by
 obtain ⟨o, _, rfl⟩ := List.mem_map.1 he
 simp only [gbD, List.mem_cons, List.not_mem_nil, or_false] at hd
 rcases hd with rfl | rfl | rfl | rfl <;> rfl
theorem i_epoch (g : GrV) (h : g.mem.length = 16) (hl : g.holds.length ≤ 2 ^ 30) : CallN Try.prog id_impl_group_epoch [.one (.ep (.v 0) 21 0 0)] [.own 21 [grD g]] [] (vI .i64 ((g.holds.length : Int) - 1)) [.own 21 [grD g]] := by
 refine F_impl_group_epoch ?_
 try (conv => whnf)
 repeat (refine Pick.mk ?_ ?_ ?_; rotate_left; (focus (first | (with_reducible refine gr_holds ?_; assumption) | (refine wid ?_ ?_ <;> omega) | ((show @Eq (Option _) _ _); simp only [List.getElem?_cons_zero, List.getElem?_cons_succ]; rfl))); conv => whnf)
 refine Out.mk false [0, 1, 2, 3, 4] [] ?_
 try (conv => whnf)
 exact ⟨rfl, rfl⟩
theorem i_GroupRun (s : List UInt8) (os : List GoV) (hs : 1 ≤ s.length ∧ s.length ≤ 64) (ho : os.length ≤ 200) (hx : ∀ o ∈ os, o.x.length ≤ 2 ^ 30) :
  CallD Try.prog id_impl_GroupRun [vY s, .one (.dv (.sl (os.map goD)))] [] (.tup [(false, [.os (.v 0) 4 0 os.length]), (false, [cI 0])]) [.own 4 ((gruns g0 os).map gbD)] := by
 refine F_impl_GroupRun ?_
 try (conv => whnf)
 repeat' (first
  | (refine Need.mk ?_ ?_; (focus (first | omega | (simp only [List.length_map, List.length_append, List.length_cons, List.length_nil, List.length_replicate]; omega))); conv => whnf)
  | (refine Pick.mk ?_ ?_ ?_; rotate_left; (focus (first | ((show @Eq Nat (_ + Int.toNat _ * _) _); simp only [Int.toNat_natCast, Nat.zero_add, Nat.mul_one]; rfl) | ((show @Eq (List _) (List.set [_] _ _) _); simp only [List.set_cons_zero]; rfl) | exact List.length_map _ | (simp only [List.length_map, List.length_append, List.length_cons, List.length_nil, List.length_replicate, Nat.zero_add]; rfl) | ((show @Eq (Option _) _ _); simp only [List.getElem?_cons_zero, List.getElem?_cons_succ]; rfl))); conv => whnf)
  | (refine SeqJ.thru ?_; conv => whnf)
  | (refine br_dec (fun _ => ?_) (fun _ => ?_) <;> first | (exfalso; omega) | contradiction | conv => whnf)
  | (refine br_not ?_; conv => whnf)
  | (refine br_bne (fun _ => ?_) (fun _ => ?_) <;> first | (exfalso; omega) | contradiction | conv => whnf)
  | (refine br_beq (fun _ => ?_) (fun _ => ?_) <;> first | (exfalso; omega) | contradiction | conv => whnf))
 refine Pick.mk [dB true, dB false, dB false, dB false, dB false, dB false, dB false, dB false, dB false, dB false, dB false, dB false, dB false, dB false, dB false, dB false] ⟨Nat.le_of_ble_eq_true rfl, rfl⟩ ?_
 try (conv => whnf)
 repeat (first
  | (refine Need.mk ?_ ?_; (focus (first | (simp only [List.length_map, List.length_append, List.length_cons, List.length_nil, List.length_replicate]; omega) | (simp; done) | rfl | ((conv => whnf); (repeat (first | (refine Need.mk (by first | rfl | omega | (simp; done)) ?_; conv => whnf) | (refine Pick.mk ?_ ?_ ?_; rotate_left; (focus (first | with_reducible exact xor_u8 _ _ | (with_reducible refine xor_i64 ?_ ?_; all_goals omega) | (with_reducible refine xor_u32 ?_ ?_; all_goals omega) | exact map_snoc gbD _ _ | (with_reducible refine gr_holds ?_; assumption) | assumption | with_reducible exact set_byN _ _ _ _ | with_reducible exact set_byI _ _ _ _ | with_reducible exact set_inN _ _ _ _ | with_reducible exact set_inI _ _ _ _ | with_reducible exact set_stN _ _ _ _ | with_reducible exact set_tsN _ _ _ _ | with_reducible exact set_tsI _ _ _ _ | with_reducible exact set_boN _ _ _ _ | with_reducible exact set_boI _ _ _ _ | (with_reducible refine get_mapN _ _ _ ?_; first | omega | (simp; omega)) | (with_reducible refine get_mapI _ _ _ ?_ ?_ <;> first | omega | (simp; omega)) | exact bs_beq _ _ | exact bs_less _ _ | exact bs_leq _ _ | with_reducible exact bs_app _ _ | (refine bs_get _ _ ?_; omega) | (refine bs_int _ _ ?_ ?_ <;> omega) | with_reducible exact sl_map0 _ _ _ | with_reducible exact sl_mapN _ _ _ | with_reducible exact sl_map _ _ _ _ | exact bs_extract0 _ _ | exact bs_extractN _ _ | exact bs_extract _ _ _ | (refine bnd_id ?_; omega) | (refine bnd_sub ?_ ?_ <;> omega) | (refine bnd_add ?_; omega) | (refine bnd_subN ?_ ?_ <;> omega) | (refine bnd_int ?_ ?_ <;> omega) | ((show @Eq Nat (_ + Int.toNat _ * _) _); simp only [Int.toNat_natCast, Nat.zero_add, Nat.mul_one]; rfl) | ((show @Eq (List _) (List.set [_] _ _) _); simp only [List.set_cons_zero]; rfl) | exact List.length_map _ | exact size_bs _ | (simp only [List.length_map, List.length_append, List.length_cons, List.length_nil, List.length_replicate, Nat.zero_add]; rfl) | with_reducible exact List.nil_append _ | with_reducible exact map_app _ _ _ | exact map_snoc byD _ _ | exact map_snoc inD _ _ | exact map_snoc stD _ _ | exact map_snoc tsD _ _ | (simp only [chunks]; rfl) | (refine wid ?_ ?_ <;> omega) | exact wby _ | with_reducible exact wby32 _ | with_reducible exact wu32 _ | exact wby64 _ | exact shr8 _ | exact shr16 _ | exact shr24 _ | exact shr32 _ | (refine tmodn ?_; omega) | (refine wdiv ?_ ?_ ?_ <;> omega) | exact wbyte _ | exact natlit _ | exact rep_by _ | exact rep_in _ | exact rep_bo _ | exact rep_st _ | (refine pick_nat _ _ _ ?_; omega) | (refine pick_int _ _ _ ?_ ?_ <;> omega) | (refine SlOf.full ?_; first | (simp; done) | (simp; omega)) | (with_reducible refine SlOf.pre _ _ ?_; first | omega | (simp; omega)) | (refine SlF.self _ _ ?_ ?_; (first | rfl | omega | (simp; done) | (simp; omega)); (exact fun _ => rfl)) | (refine SlF.pre _ _ ?_ ?_; (first | omega | (simp; omega)); (exact fun _ => rfl)) | (refine SlF.same ?_ ?_; (first | rfl | omega | (simp; done) | (simp; omega)); (first | exact fz_self _ _ (fun _ => rfl) | exact fz_pl rfl | (refine Fz.append ?_ ?_ <;> first | exact fz_self _ _ (fun _ => rfl) | exact fz_pl rfl) | (refine Fz.append (Fz.append ?_ ?_) ?_ <;> first | exact fz_self _ _ (fun _ => rfl) | exact fz_pl rfl))) | (simp only [Int.toNat_natCast, Nat.zero_add, Nat.mul_one]; rfl) | ((show @Eq (Option CV) _ _); rfl) | ((fail_if_success (show @Eq (Option _) _ _)); rfl) | ((show @Eq (Option _) _ _); simp only [List.getElem?_cons_zero, List.getElem?_cons_succ]; done) | ((show @Eq (Option _) _ _); simp only [List.getElem?_cons_zero, List.getElem?_cons_succ]; rfl) | with_reducible rfl)); conv => whnf))); exact Done.mk trivial))); conv => whnf)
  | (refine Pick.mk ?_ ?_ ?_; rotate_left; (focus (first | ((show @Eq (List _) (List.set [_] _ _) _); simp only [List.set_cons_zero]; rfl) | exact List.length_map _ | (simp only [List.length_map, List.length_append, List.length_cons, List.length_nil, List.length_replicate, Nat.zero_add]; rfl) | with_reducible exact List.nil_append _ | (simp only [chunks]; rfl) | (refine SlOf.full ?_; first | (simp; done) | (simp; omega)) | ((show @Eq (Option _) _ _); simp only [List.getElem?_cons_zero, List.getElem?_cons_succ]; rfl))); conv => whnf)
  | (refine OwnQ.mk true ?_; conv => whnf))
 refine LoopE.mk (fun i : Nat => mk [(6, .one (.ep (.v 32784) 21 0 0)), (7, .one (.os (.v 5000) 4 0 i)), (62, .one (.dv (.sl (os.map goD)))), (63, vI .i64 os.length), (64, vI .i64 i)] [(32784, .own 21 [grD (gend g0 (os.take i))]), (5000, .own 4 ((gruns g0 (os.take i)).map gbD))]) (fun i => i ≤ os.length) (fun i => os.length - i) 0 (by omega) (LeX.of ?_) ?_
 ·try (conv => whnf)
  repeat (refine Need.mk ?_ ?_; (focus (first | omega | (simp; done) | rfl)); conv => whnf)
  trivial
 ·intro i hi
  by_cases hlt : i < os.length
  ·obtain ⟨r1, r2⟩ := gruns_take g0 os i hlt
   have hw := gend_wf (os.take i) g0_wf
   have hl : (os.take i).length = i := by simp; omega
   rw [hl] at hw
   have hgl : (gruns g0 (os.take i)).length = i := by rw [gruns_len, hl]
   obtain ⟨G, hG⟩ : ∃ G, G = gend g0 (os.take i) := ⟨_, rfl⟩
   obtain ⟨R, hR⟩ : ∃ R, R = gruns g0 (os.take i) := ⟨_, rfl⟩
   rw [← hG] at hw r1 r2
   rw [← hR] at hgl r1
   rw [← hG, ← hR]
   have hx' := hx os[i] (List.getElem_mem _)
   have hw2 := gstep_wf hw os[i].k os[i].a os[i].n os[i].x
   try (conv => whnf)
   repeat' (first
    | (refine Pick.mk ?_ ?_ ?_; rotate_left; (focus ((refine pick_nat _ _ _ ?_; omega))); conv => whnf)
    | (refine SeqJ.thru ?_; conv => whnf)
    | (refine br_dec (fun _ => ?_) (fun _ => ?_) <;> first | (exfalso; omega) | contradiction | conv => whnf)
    | (refine br_not ?_; conv => whnf)
    | (refine br_bne (fun _ => ?_) (fun _ => ?_) <;> first | (exfalso; omega) | contradiction | conv => whnf)
    | (refine br_beq (fun _ => ?_) (fun _ => ?_) <;> first | (exfalso; omega) | contradiction | conv => whnf))
   refine Hand.mk [] ?_
   try (conv => whnf)
   refine CallW.k (i_run (2 + 2 * i) G (os[i].k) (os[i].a) (os[i].n) (os[i].x) hw (by omega) (by omega)) ?_
   try (conv => whnf)
   refine Hand.mk [] ?_
   try (conv => whnf)
   refine CallW.k (i_epoch (gstep G os[i].k os[i].a os[i].n os[i].x).1 hw2.mem (by have := hw2.few; omega)) ?_
   try (conv => whnf)
   repeat (first
    | (refine Need.mk ?_ ?_; (focus ((simp only [List.length_map, List.length_append, List.length_cons, List.length_nil, List.length_replicate]; omega))); conv => whnf)
    | (refine Pick.mk ?_ ?_ ?_; rotate_left; (focus (first | (simp only [List.length_map, List.length_append, List.length_cons, List.length_nil, List.length_replicate, Nat.zero_add]; rfl) | (simp only [chunks]; rfl) | (refine wid ?_ ?_ <;> omega) | (refine SlOf.full ?_; first | (simp; done) | (simp; omega)) | ((fail_if_success (show @Eq (Option _) _ _)); rfl))); conv => whnf))
   try (conv => whnf)
   repeat' (first
    | (refine br_dec (fun _ => ?_) (fun _ => ?_) <;> first | (exfalso; omega) | contradiction | conv => whnf)
    | (refine br_not ?_; conv => whnf)
    | (refine br_bne (fun _ => ?_) (fun _ => ?_) <;> first | (exfalso; omega) | contradiction | conv => whnf)
    | (refine br_beq (fun _ => ?_) (fun _ => ?_) <;> first | (exfalso; omega) | contradiction | conv => whnf))
   refine Pick.mk (i + 1) ⟨by omega, by omega⟩ (LeX.of ?_)
   try (conv => whnf)
   repeat (refine Need.mk ?_ ?_; (focus (first | omega | (simp; done) | rfl)); conv => whnf)
   refine Need.mk (by rw [r2]) ?_
   try (conv => whnf)
   refine Need.mk (by rw [r1, List.map_append]; rfl) ?_
   try (conv => whnf)
   trivial
  ·try (conv => whnf)
   repeat' (first
    | (refine SeqJ.thru ?_; conv => whnf)
    | (refine br_dec (fun _ => ?_) (fun _ => ?_) <;> first | (exfalso; omega) | contradiction | conv => whnf)
    | (refine br_not ?_; conv => whnf)
    | (refine br_bne (fun _ => ?_) (fun _ => ?_) <;> first | (exfalso; omega) | contradiction | conv => whnf)
    | (refine br_beq (fun _ => ?_) (fun _ => ?_) <;> first | (exfalso; omega) | contradiction | conv => whnf))
   refine Out.mk false [0, 1, 2, 3, 4] [] ?_
   try (conv => whnf)
   repeat (refine Need.mk ?_ ?_; (focus (exact flat_gb _)); conv => whnf)
   have : i = os.length := by omega
   subst this
   exact ⟨rfl, by rw [List.take_length]⟩
end Go.Proofs.Ytpdjehnlejjfmaa.D
/- The law FnThief, as a call that gives back true. -/
namespace Go.Proofs.Ytpdjehnlejjfmaa.D
open Go.RowKit
set_option maxRecDepth 100000
set_option maxHeartbeats 4000000
set_option linter.unusedVariables false
set_option linter.unusedSimpArgs false

def adds (k : Nat) : List GoV := (List.range k).map fun i => ⟨1, ((i + 1 : Nat) : Int), 0, []⟩
theorem adds_succ (k : Nat) : adds (k + 1) = adds k ++ [⟨1, ((k + 1 : Nat) : Int), 0, []⟩] := by simp [adds, List.range_succ]
@[simp] theorem adds_len (k : Nat) : (adds k).length = k := by simp [adds]
def spies (k : Nat) : List GoV := (List.range k).map fun i => ⟨7, 0, ((i + 1 : Nat) : Int), []⟩
theorem spies_succ (k : Nat) : spies (k + 1) = spies k ++ [⟨7, 0, ((k + 1 : Nat) : Int), []⟩] := by simp [spies, List.range_succ]
@[simp] theorem spies_len (k : Nat) : (spies k).length = k := by simp [spies]
def one3 : List UInt8 := [111, 110, 101]
def two3 : List UInt8 := [116, 119, 111]
def three5 : List UInt8 := [116, 104, 114, 101, 101]
def four4 : List UInt8 := [102, 111, 117, 114]
def opsA (n : Nat) (v : Int) : List GoV := adds n ++ [⟨6, v, 0, []⟩, ⟨4, 0, 0, one3⟩, ⟨1, 9, 0, []⟩, ⟨4, 9, 0, two3⟩]
def healO (v : Int) (b : Bool) : GoV := if b then ⟨3, 9, 0, []⟩ else ⟨2, v, 0, []⟩
def opsB (n : Nat) (v : Int) (b : Bool) : List GoV := opsA n v ++ [healO v b] ++ [⟨4, 0, 0, three5⟩, ⟨1, 10, 0, []⟩, ⟨4, 10, 0, four4⟩]
def opsC (n : Nat) (v : Int) (b : Bool) : List GoV := opsB n v b ++ spies 4 ++ [⟨5, 10, 1, []⟩, ⟨5, 0, 4, []⟩, ⟨5, 9, 3, []⟩]
@[simp] theorem opsA_len (n : Nat) (v : Int) : (opsA n v).length = n + 4 := by simp [opsA]
@[simp] theorem opsB_len (n : Nat) (v : Int) (b : Bool) : (opsB n v b).length = n + 8 := by simp [opsB]
@[simp] theorem opsC_len (n : Nat) (v : Int) (b : Bool) : (opsC n v b).length = n + 15 := by simp [opsC]
theorem opsC_x {n : Nat} {v : Int} {b : Bool} {o : GoV} (h : o ∈ opsC n v b) : o.x.length ≤ 2 ^ 30 := by
 have k : o.x.length ≤ 5 := by
  simp only [opsC, opsB, opsA, adds, spies, healO, List.mem_append, List.mem_map, List.mem_cons, List.not_mem_nil, or_false] at h
  rcases h with (((((⟨i, _, rfl⟩ | rfl | rfl | rfl | rfl) | rfl) | rfl | rfl | rfl) | ⟨i, _, rfl⟩) | rfl | rfl | rfl) <;> first | (simp [one3, two3, three5, four4]; done) | (split <;> simp)
 omega
theorem seven {α : Type} {l : List α} (h : l.length = 7) : ∃ a b c d e f g, l = [a, b, c, d, e, f, g] := by
 match l, h with
 | [a, b, c, d, e, f, g], _ => exact ⟨a, b, c, d, e, f, g, rfl⟩
def okT (n : Nat) (v : Nat) (b : Bool) : Bool :=
 let r := (gruns g0 (opsC n v b)).drop (n + 8)
 decide ((r.map (·.x)).take 2 = [one3, two3] ∧ ((r.drop 2).map (·.c)).take 3 = [9, 9, 9] ∧ ((r.drop 5).map (·.x)) = [four4, three5])
theorem thief_all : ∀ n : Fin 5, ∀ v : Fin 6, ∀ b : Bool, v.val ≤ n.val + 1 → (b = true ∨ v.val ≠ 0) → okT (n.val + 1) v.val b = true := by decide +kernel
theorem app_goD (A B : List GoV) {es : List (List DV)} (h : es = B.map goD) : A.map goD ++ es = (A ++ B).map goD := by rw [h, List.map_append]
theorem slf_goD (L : List GoV) {es : List (List DV)} {n : Nat} (h : es = L.map goD) (hn : n = L.length) : SlF es 0 n (L.map goD) := by
 subst h
 exact SlF.self _ _ hn (fun _ => rfl)
theorem law_Thief (code : List UInt8) (hc : code.length ≤ 2 ^ 47) : CallD Try.prog id_laws_FnThief [vY code] [] (vB true) [] := by
 refine F_laws_FnThief ?_
 try (conv => whnf)
 repeat' (first
  | (refine Need.mk ?_ ?_; (focus (first | (simp; done) | (simp; omega) | exact len_by _)); conv => whnf)
  | (refine Pick.mk ?_ ?_ ?_; rotate_left; (focus (first | with_reducible exact sl_map0 _ _ _ | (refine bnd_int ?_ ?_ <;> omega) | exact List.length_map _ | (simp only [List.length_map, List.length_append, List.length_cons, List.length_nil, List.length_replicate, Nat.zero_add]; rfl) | (simp only [chunks]; rfl) | (refine SlOf.full ?_; first | (simp; done) | (simp; omega)) | ((fail_if_success (show @Eq (Option _) _ _)); rfl))); conv => whnf)
  | (refine SeqJ.thru ?_; conv => whnf)
  | (refine br_dec (fun _ => ?_) (fun _ => ?_) <;> first | (exfalso; omega) | contradiction | conv => whnf)
  | (refine br_not ?_; conv => whnf)
  | (refine br_bne (fun _ => ?_) (fun _ => ?_) <;> first | (exfalso; omega) | contradiction | conv => whnf)
  | (refine br_beq (fun _ => ?_) (fun _ => ?_) <;> first | (exfalso; omega) | contradiction | conv => whnf))
 ·refine Out.mk true [] [] ?_
  try (conv => whnf)
  exact ⟨rfl, rfl⟩
 obtain ⟨s, hs⟩ : ∃ s, s = 1 :: code.take (if 20 < (code.length : Int) then 20 else (code.length : Int)).toNat := ⟨_, rfl⟩
 have hsl : 1 ≤ s.length ∧ s.length ≤ 64 := by rw [hs]; simp only [List.length_cons, List.length_take]; split <;> omega
 have hs1 : (s.map byD : List (List DV)) = [DV.sc (Value.int IntKind.u8 1)] :: (code.take (if 20 < (code.length : Int) then 20 else (code.length : Int)).toNat).map byD := by rw [hs]; rfl
 refine Hand.mk [] ?_
 try (conv => whnf)
 refine CallW.r (l_at code 0 5 (by omega) (by omega) (by omega) (by omega)) ?_
 rintro _ _ ⟨v, rfl, rfl, hv0, hv1⟩
 obtain ⟨n, rfl⟩ : ∃ n : Nat, v = n := ⟨v.toNat, by omega⟩
 try (conv => whnf)
 repeat (refine Pick.mk ?_ ?_ ?_; rotate_left; (focus (first | (simp only [chunks]; rfl) | (refine wid ?_ ?_ <;> omega))); conv => whnf)
 refine LoopE.mk (fun i : Nat => mk [(0, vY code), (3, .one (.os (.v 16384) 1 0 s.length)), (4, vI .i64 ((n + 1 : Nat) : Int)), (5, .one (.os (.v 24576) 4 0 i)), (6, vI .i64 ((i + 1 : Nat) : Int))] [(16384, .own 1 (s.map byD)), (24576, .own 4 ((adds i).map goD))]) (fun i => i ≤ n + 1) (fun i => n + 1 - i) 0 (by omega) (LeX.of ?_) ?_
 ·try (conv => whnf)
  repeat (refine Need.mk ?_ ?_; (focus ((simp; done))); conv => whnf)
  refine Need.mk ⟨rfl, by rw [hs, List.length_cons]; omega⟩ ?_
  try (conv => whnf)
  repeat (refine Need.mk ?_ ?_; (focus (omega)); conv => whnf)
  refine Need.mk hs1.symm ?_
  try (conv => whnf)
  repeat (refine Need.mk ?_ ?_; (focus (rfl)); conv => whnf)
  trivial
 ·intro i hi
  have hal := adds_len i
  by_cases hlt : i < n + 1
  ·try (conv => whnf)
   repeat' (first
    | (refine Need.mk ?_ ?_; (focus ((simp only [List.length_map, List.length_append, List.length_cons, List.length_nil, List.length_replicate]; omega))); conv => whnf)
    | (refine Pick.mk ?_ ?_ ?_; rotate_left; (focus (first | (simp only [List.length_map, List.length_append, List.length_cons, List.length_nil, List.length_replicate, Nat.zero_add]; rfl) | (simp only [chunks]; rfl) | (refine wid ?_ ?_ <;> omega) | (refine SlOf.full ?_; first | (simp; done) | (simp; omega)) | ((fail_if_success (show @Eq (Option _) _ _)); rfl))); conv => whnf)
    | (refine SeqJ.thru ?_; conv => whnf)
    | (refine br_dec (fun _ => ?_) (fun _ => ?_) <;> first | (exfalso; omega) | contradiction | conv => whnf)
    | (refine br_not ?_; conv => whnf)
    | (refine br_bne (fun _ => ?_) (fun _ => ?_) <;> first | (exfalso; omega) | contradiction | conv => whnf)
    | (refine br_beq (fun _ => ?_) (fun _ => ?_) <;> first | (exfalso; omega) | contradiction | conv => whnf))
   refine Pick.mk (i + 1) ⟨by omega, by omega⟩ (LeX.of ?_)
   try (conv => whnf)
   repeat (refine Need.mk ?_ ?_; (focus (first | omega | (simp; done))); conv => whnf)
   refine Need.mk (by rw [adds_succ, List.map_append]; rfl) ?_
   try (conv => whnf)
   trivial
  ·obtain rfl : i = n + 1 := by omega
   try (conv => whnf)
   repeat' (first
    | (refine Pick.mk ?_ ?_ ?_; rotate_left; (focus ((refine wid ?_ ?_ <;> omega))); conv => whnf)
    | (refine SeqJ.thru ?_; conv => whnf)
    | (refine br_dec (fun _ => ?_) (fun _ => ?_) <;> first | (exfalso; omega) | contradiction | conv => whnf)
    | (refine br_not ?_; conv => whnf)
    | (refine br_bne (fun _ => ?_) (fun _ => ?_) <;> first | (exfalso; omega) | contradiction | conv => whnf)
    | (refine br_beq (fun _ => ?_) (fun _ => ?_) <;> first | (exfalso; omega) | contradiction | conv => whnf))
   refine Hand.mk [] ?_
   try (conv => whnf)
   refine CallW.r (l_at code 1 ((n + 1 + 1 : Nat) : Int) (by omega) (by omega) (by omega) (by omega)) ?_
   rintro _ _ ⟨v, rfl, rfl, w0, w1⟩
   obtain ⟨v, rfl⟩ : ∃ n : Nat, v = n := ⟨v.toNat, by omega⟩
   try (conv => whnf)
   repeat (first
    | (refine Need.mk ?_ ?_; (focus ((simp only [List.length_map, List.length_append, List.length_cons, List.length_nil, List.length_replicate]; omega))); conv => whnf)
    | (refine Pick.mk ?_ ?_ ?_; rotate_left; (focus (first | (simp only [List.length_map, List.length_append, List.length_cons, List.length_nil, List.length_replicate, Nat.zero_add]; rfl) | (simp only [chunks]; rfl) | (refine SlOf.full ?_; first | (simp; done) | (simp; omega)) | ((fail_if_success (show @Eq (Option _) _ _)); rfl))); conv => whnf))
   refine SeqJ.join (fun b : Bool => mk [(3, .one (.os (.v 16384) 1 0 s.length)), (5, .one (.os (.v 24576) 4 0 (n + 6)))] [(16384, .own 1 (s.map byD)), (24576, .own 4 ((opsA (n + 1) v ++ [healO v b]).map goD))]) (fun b => b = true ∨ v ≠ 0) ?_ ?_
   ·refine Hand.mk [] ?_
    try (conv => whnf)
    refine CallW.r (l_at code 2 2 (by omega) (by omega) (by omega) (by omega)) ?_
    rintro _ _ ⟨q, rfl, rfl, q0, q1⟩
    try (conv => whnf)
    repeat' (first
     | (refine Need.mk ?_ ?_; (focus ((simp only [List.length_map, List.length_append, List.length_cons, List.length_nil, List.length_replicate]; omega))); conv => whnf)
     | (refine Pick.mk ?_ ?_ ?_; rotate_left; (focus (first | (simp only [List.length_map, List.length_append, List.length_cons, List.length_nil, List.length_replicate, Nat.zero_add]; rfl) | (simp only [chunks]; rfl) | (refine SlOf.full ?_; first | (simp; done) | (simp; omega)) | ((fail_if_success (show @Eq (Option _) _ _)); rfl))); conv => whnf)
     | (refine br_dec (fun _ => ?_) (fun _ => ?_) <;> first | (exfalso; omega) | contradiction | conv => whnf)
     | (refine br_not ?_; conv => whnf)
     | (refine br_bne (fun _ => ?_) (fun _ => ?_) <;> first | (exfalso; omega) | contradiction | conv => whnf)
     | (refine br_beq (fun _ => ?_) (fun _ => ?_) <;> first | (exfalso; omega) | contradiction | conv => whnf))
    ·refine Pick.mk true (.inl rfl) (LeX.of ?_)
     try (conv => whnf)
     repeat (refine Need.mk ?_ ?_; (focus (first | omega | (simp; done))); conv => whnf)
     refine Need.mk (by rw [opsA, List.map_append, List.map_append]; rfl) ?_
     try (conv => whnf)
     trivial
    ·refine Pick.mk true (.inl rfl) (LeX.of ?_)
     try (conv => whnf)
     repeat (refine Need.mk ?_ ?_; (focus (first | omega | (simp; done))); conv => whnf)
     refine Need.mk (by rw [opsA, List.map_append, List.map_append]; rfl) ?_
     try (conv => whnf)
     trivial
    ·refine Pick.mk false (.inr (by omega)) (LeX.of ?_)
     try (conv => whnf)
     repeat (refine Need.mk ?_ ?_; (focus (first | omega | (simp; done))); conv => whnf)
     refine Need.mk (by rw [opsA, List.map_append, List.map_append]; rfl) ?_
     try (conv => whnf)
     trivial
   ·intro b hb
    have hok : okT (n + 1) v b = true := thief_all ⟨n, by omega⟩ ⟨v, by omega⟩ b (by dsimp only; omega) hb
    try (conv => whnf)
    repeat (first
     | (refine Need.mk ?_ ?_; (focus ((simp only [List.length_map, List.length_append, List.length_cons, List.length_nil, List.length_replicate]; omega))); conv => whnf)
     | (refine Pick.mk ?_ ?_ ?_; rotate_left; (focus (first | (simp only [List.length_map, List.length_append, List.length_cons, List.length_nil, List.length_replicate, Nat.zero_add]; rfl) | (simp only [chunks]; rfl) | (refine SlOf.full ?_; first | (simp; done) | (simp; omega)) | ((fail_if_success (show @Eq (Option _) _ _)); rfl))); conv => whnf))
    refine LoopE.mk (fun i : Nat => mk [(3, .one (.os (.v 16384) 1 0 s.length)), (5, .one (.os (.v 24576) 4 0 (n + 9 + i))), (8, vI .i64 ((n + 9 : Nat) : Int)), (9, vI .i64 ((i + 1 : Nat) : Int))] [(16384, .own 1 (s.map byD)), (24576, .own 4 ((opsB (n + 1) v b ++ spies i).map goD))]) (fun i => i ≤ 4) (fun i => 4 - i) 0 (by omega) (LeX.of ?_) ?_
    ·try (conv => whnf)
     repeat (refine Need.mk ?_ ?_; (focus (first | omega | (simp; done))); conv => whnf)
     refine Need.mk (by rw [opsB, spies, List.range_zero, List.map_nil, List.append_nil]; exact app_goD _ _ rfl) ?_
     try (conv => whnf)
     trivial
    ·intro i hi
     have hsl2 := spies_len i
     by_cases hlt : i < 4
     ·try (conv => whnf)
      repeat' (first
       | (refine Need.mk ?_ ?_; (focus ((simp only [List.length_map, List.length_append, List.length_cons, List.length_nil, List.length_replicate]; omega))); conv => whnf)
       | (refine Pick.mk ?_ ?_ ?_; rotate_left; (focus (first | (simp only [List.length_map, List.length_append, List.length_cons, List.length_nil, List.length_replicate, Nat.zero_add]; rfl) | (simp only [chunks]; rfl) | (refine wid ?_ ?_ <;> omega) | (refine SlOf.full ?_; first | (simp; done) | (simp; omega)) | ((fail_if_success (show @Eq (Option _) _ _)); rfl))); conv => whnf)
       | (refine SeqJ.thru ?_; conv => whnf)
       | (refine br_dec (fun _ => ?_) (fun _ => ?_) <;> first | (exfalso; omega) | contradiction | conv => whnf)
       | (refine br_not ?_; conv => whnf)
       | (refine br_bne (fun _ => ?_) (fun _ => ?_) <;> first | (exfalso; omega) | contradiction | conv => whnf)
       | (refine br_beq (fun _ => ?_) (fun _ => ?_) <;> first | (exfalso; omega) | contradiction | conv => whnf))
      refine Pick.mk (i + 1) ⟨by omega, by omega⟩ (LeX.of ?_)
      try (conv => whnf)
      repeat (refine Need.mk ?_ ?_; (focus (first | omega | (simp; done))); conv => whnf)
      refine Need.mk (by rw [spies_succ, ← List.append_assoc (opsB _ _ _)]; exact app_goD _ _ rfl) ?_
      try (conv => whnf)
      trivial
     ·obtain rfl : i = 4 := by omega
      have c := i_GroupRun s (opsC (n + 1) v b) hsl (by simp; omega) (fun o ho => opsC_x ho)
      have hgl := gruns_len g0 (opsC (n + 1) v b)
      rw [opsC_len] at hgl
      rw [opsC_len] at c
      obtain ⟨R, hR⟩ : ∃ R, R = gruns g0 (opsC (n + 1) v b) := ⟨_, rfl⟩
      rw [okT, ← hR] at hok
      rw [← hR] at c hgl
      try (conv => whnf)
      repeat' (first
       | (refine Need.mk ?_ ?_; (focus ((simp only [List.length_map, List.length_append, List.length_cons, List.length_nil, List.length_replicate]; omega))); conv => whnf)
       | (refine Pick.mk ?_ ?_ ?_; rotate_left; (focus (first | (simp only [List.length_map, List.length_append, List.length_cons, List.length_nil, List.length_replicate, Nat.zero_add]; rfl) | (simp only [chunks]; rfl) | (refine SlOf.full ?_; first | (simp; done) | (simp; omega)) | ((fail_if_success (show @Eq (Option _) _ _)); rfl))); conv => whnf)
       | (refine SeqJ.thru ?_; conv => whnf)
       | (refine br_dec (fun _ => ?_) (fun _ => ?_) <;> first | (exfalso; omega) | contradiction | conv => whnf)
       | (refine br_not ?_; conv => whnf)
       | (refine br_bne (fun _ => ?_) (fun _ => ?_) <;> first | (exfalso; omega) | contradiction | conv => whnf)
       | (refine br_beq (fun _ => ?_) (fun _ => ?_) <;> first | (exfalso; omega) | contradiction | conv => whnf))
      refine Hand.mk [] ?_
      try (conv => whnf)
      repeat (refine Pick.mk ?_ ?_ ?_; rotate_left; (focus ((refine SlF.self _ _ ?_ ?_; (first | rfl | omega | (simp; done) | (simp; omega)); (exact fun _ => rfl)))); conv => whnf)
      refine Pick.mk _ (slf_goD (opsC (n + 1) v b) (app_goD _ _ rfl) (by simp)) ?_
      try (conv => whnf)
      refine CallW.d c ?_
      try (conv => whnf)
      repeat (refine SeqJ.thru ?_; conv => whnf)
      obtain ⟨x0, x1, x2, x3, x4, x5, x6, hx⟩ := seven (l := R.drop (n + 1 + 8)) (by simp; omega)
      rw [hx] at hok
      have hok := of_decide_eq_true hok
      simp only [List.map_cons, List.map_nil, List.take_succ_cons, List.take_zero, List.drop_succ_cons, List.drop_zero, List.cons.injEq, and_true] at hok
      obtain ⟨⟨o0, o1⟩, ⟨o2, o3, o4⟩, o5, o6⟩ := hok
      have hat : ∀ (k : Nat) (x : GbV), ([x0, x1, x2, x3, x4, x5, x6] : List GbV)[k]? = some x → (R.map gbD)[addN (0 + (n + 9)) (Int.toNat (k : Int))]? = some (gbD x) := fun k x h => by
       rw [addN_eq, show 0 + (n + 9) + Int.toNat (k : Int) = n + 9 + k by omega]
       rw [← hx, List.getElem?_drop] at h
       rw [List.getElem?_map, show n + 9 + k = n + 1 + 8 + k by omega, h]; rfl
      have a0 : (R.map gbD)[addN (0 + (n + 9)) (Int.toNat 0)]? = some (gbD x0) := hat 0 _ rfl
      have a1 : (R.map gbD)[addN (0 + (n + 9)) (Int.toNat 1)]? = some (gbD x1) := hat 1 _ rfl
      have a2 : (R.map gbD)[addN (0 + (n + 9)) (Int.toNat 2)]? = some (gbD x2) := hat 2 _ rfl
      have a3 : (R.map gbD)[addN (0 + (n + 9)) (Int.toNat 3)]? = some (gbD x3) := hat 3 _ rfl
      have a4 : (R.map gbD)[addN (0 + (n + 9)) (Int.toNat 4)]? = some (gbD x4) := hat 4 _ rfl
      have a5 : (R.map gbD)[addN (0 + (n + 9)) (Int.toNat 5)]? = some (gbD x5) := hat 5 _ rfl
      have a6 : (R.map gbD)[addN (0 + (n + 9)) (Int.toNat 6)]? = some (gbD x6) := hat 6 _ rfl
      try (conv => whnf)
      repeat' (first
       | (refine Need.mk ?_ ?_; (focus (omega)); conv => whnf)
       | (refine Pick.mk ?_ ?_ ?_; rotate_left; (focus (first | assumption | exact bs_beq _ _ | (refine bnd_id ?_; omega))); conv => whnf)
       | (refine br_dec (fun _ => ?_) (fun _ => ?_) <;> first | (exfalso; omega) | contradiction | conv => whnf)
       | (refine br_not ?_; conv => whnf)
       | (refine br_bne (fun _ => ?_) (fun _ => ?_) <;> first | (exfalso; omega) | contradiction | conv => whnf)
       | (refine br_beq (fun _ => ?_) (fun _ => ?_) <;> first | (exfalso; omega) | contradiction | conv => whnf))
      all_goals
       refine Out.mk true [] [] ?_
       try (conv => whnf)
      have o6' : x6.x = [116, 104, 114, 101, 101] := o6
      exact ⟨by simp [o6'], rfl⟩
end Go.Proofs.Ytpdjehnlejjfmaa.D
/- From a call's contract to the given row: the arguments as they read. -/
namespace Go.Proofs.Ytpdjehnlejjfmaa.D
open Go.ChangeShapes Go.WideShapes Go.ChangeAt Go.RowKit
open Go.ChangeMaps (open_string)
set_option linter.unusedVariables false
set_option linter.unusedSimpArgs false

def cellsV (w : World) : View := fun x => w.cell? x
theorem satL0 (w : World) : SatL w Rows0.none (cellsV w) (fun _ => none) (Lof []) w :=
 ⟨Keep.refl _ _, fun _ _ h => h, fun x v p b n _ h => by simp at h, fun p q b n n' h => by simp at h, fun p b n h => by simp at h, fun p r h => by simp [Lof] at h, ⟨by simp [Rows0.none], fun q x h => by simp [Rows0.none] at h⟩, fun _ _ => ⟨rfl, fun _ _ => rfl⟩,
  fun p r h => by simp [Lof] at h, fun t => .one (.dead _), rfl, rfl⟩
theorem enter_law {P : Program} {f : FuncId} {args : List SV} {w : World} {vs : List Value} (h : CallD P f args [] (vB true) []) (ha : Args (cellsV w) (fun _ => none) args vs) :
  Calls P f vs.toArray w (fun e w' => e = .returned (.bool true) ∧ Below w.heap.size w w') := by
 refine (h.2 w Rows0.none _ _ vs rfl (satL0 w) ha).mono ?_
 rintro e w' ⟨v, V', bs', res, Lo, rfl, ⟨rfl, rfl⟩, -, -, -, hs, hv, -⟩
 refine ⟨?_, hs.keep.below⟩
 cases hv with
 |one h => cases h with
  | dv h => cases h; rfl
theorem args0 {V : View} {b : Loc} : Args V b [] [] := ⟨rfl, fun i sv v h => by simp at h⟩
theorem argsC {V : View} {b : Loc} {a : SV} {v : Value} {az : List SV} {vs : List Value} (h : VR V b a v) (t : Args V b az vs) : Args V b (a :: az) (v :: vs) :=
 ⟨by simp [t.len], fun i sv u h1 h2 => by
  cases i with
  | zero => simp at h1 h2; subst h1; subst h2; exact h
  | succ i => exact t.get i sv u (by simpa using h1) (by simpa using h2)⟩
section
variable {H : Type} {enc : TypeId × Value → H} {P : Program} {W : World} {base : Nat} {sp : Nat → Bool} {held : Bool}
theorem u8_of {n : Int} (h : (Lit.int .u8 n).wf = true) : ∃ b : UInt8, n = b.toNat := by
 have : 0 ≤ n ∧ n < 256 := by
  simp [Lit.wf, IntKind.min, IntKind.max, IntKind.bits, IntKind.signed] at h
  omega
 exact ⟨u8 n, by rw [u8_val]; omega⟩
theorem list_of {α : Type} (p : α → Int → Prop) : ∀ (zs : List Int), (∀ n ∈ zs, ∃ a, p a n) → ∃ l : List α, l.length = zs.length ∧ ∀ i (h : i < l.length) (h2 : i < zs.length), p l[i] zs[i]
 | [], _ => ⟨[], rfl, fun i h => by simp at h⟩
 |z :: zs, h => by
  obtain ⟨a, ha⟩ := h z (by simp)
  obtain ⟨l, hl, hp⟩ := list_of p zs fun n hn => h n (by simp [hn])
  refine ⟨a :: l, by simp [hl], fun i h h2 => ?_⟩
  cases i with
  | zero => exact ha
  | succ i => exact hp i (by simpa using h) (by simpa using h2)
theorem rd_cells {W : World} {x : Addr} {len cap : Nat} {es : List DV} {g : Nat → Value} (hl : es.length = len) (hc : len ≤ cap) (hg : ∀ i, i < len → W.cell? (x.add i) = some (g i))
  (hr : ∀ i (h : i < es.length), Rd (cellsV W) (g i) es[i]) : Rd (cellsV W) (.slice (some x) len cap) (.sl (es.map fun e => [e])) := by
 by_cases h0 : len = 0
 ·subst h0
  have : es = [] := List.eq_nil_of_length_eq_zero hl
  subst this
  exact .nil _ _
 ·have hx : x = ⟨x.block, x.off, none⟩ := by
   have h1 := hg 0 (by omega)
   have h2 : x.add 0 = x := by simp [Addr.add]
   rw [h2] at h1
   have h3 : x.spot = none := by
    simp only [World.cell?] at h1
    split at h1
    ·split at h1
     ·simp at h1
     ·rename_i h; simpa using h
    ·simp at h1
   cases x; simp_all
  have := Rd.sl (V := cellsV W) x.block x.off 1 cap (es.map fun e => [e]) (fun i _ => g i) (by simp; omega) (by simp) (fun i j hi hj => by
   have h1 := hg i (by simpa [hl] using hi)
   have h2 : x.add i = ⟨x.block, x.off + i * 1 + j, none⟩ := by
    rcases Nat.eq_zero_or_pos i with rfl | hi0
    ·rw [show x.add 0 = x from by simp [Addr.add]]
     simp only [Nat.zero_mul, Nat.add_zero]
     have : j = 0 := by omega
     subst this
     exact hx
    ·unfold Addr.add
     rw [if_neg (by omega)]
     have : j = 0 := by omega
     subst this
     simp
   rw [h2] at h1
   exact h1) (fun i j hi hj => by
   simp at hj
   subst hj
   simpa using hr i (by simpa using hi))
  rw [hx]
  simpa [hl] using this
theorem in_bytes {t e : TypeId} {a : Option Addr} {len cap : Nat} {d : DataW H} {ps : List MemPlace} {ts : List TypeId} {ds : List (DataW H)} {j : Nat} (hsz : (DataW.weightsEach P ts ds).all (· ≤ reachBytes) = true) (h1 : ts[j]? = some t) (h2 : ds[j]? = some d)
  (ht : P.underlying t = some (.slice e)) (he : P.underlying e = some (.int .u8)) (hc : P.cellsOf e = 1) (hb : P.bytesOf e = 1)
  (h : DataW.Trod enc P W base sp held t (.slice a len cap) d ps) : ∃ l : List UInt8, l.length = len ∧ l.length ≤ 2 ^ 47 ∧ Rd (cellsV W) (.slice a len cap) (.sl (l.map byD)) := by
 obtain ⟨fuel, hf⟩ := h
 rcases open_ints ht he hc hf with ⟨hcs, _⟩ | ⟨x, l, c, zs, hcs, _, hl, hm, hz, hx, hcell, hwz⟩
 ·simp [Value.cells] at hcs
  obtain ⟨rfl, rfl, rfl⟩ := hcs
  exact ⟨[], rfl, by simp, .nil _ _⟩
 ·simp [Value.cells] at hcs
  obtain ⟨rfl, rfl, rfl⟩ := hcs
  obtain ⟨hx, _⟩ := Prod.mk.inj hx
  subst hx
  have z := sized_slice hsz h1 h2 ht
  have hr := reachBytes_lt
  rw [hb] at z
  have hll : (lits (H := H) .u8 (zs.take len)).length + (lits (H := H) .u8 (zs.drop len)).length = zs.length := by
   simp [lits]; omega
  have hzl : len ≤ zs.length := by rw [hz]; split <;> omega
  obtain ⟨bsl, hbl, hp⟩ := list_of (fun (b : UInt8) n => n = b.toNat) zs fun n hn => u8_of (hwz n hn)
  refine ⟨bsl.take len, by simp; omega, by simp; omega, ?_⟩
  have := rd_cells (W := W) (x := x) (len := len) (cap := cap) (es := (bsl.take len).map fun b => DV.sc (.int .u8 b.toNat)) (g := fun i => .int .u8 (zs.getD i 0)) (by simp; omega) hl (fun i hi => hcell i (by omega)) (fun i hi => by
   simp only [List.length_map, List.length_take] at hi
   have := hp i (by omega) (by omega)
   simp only [List.getElem_map, List.getElem_take]
   rw [show zs.getD i 0 = zs[i]'(by omega) by simp [List.getD, show i < zs.length by omega], this]
   exact .sc _ rfl)
  rw [List.map_map] at this
  exact this
theorem vrY {l : List UInt8} {v : Value} {b : Loc} (h : Rd (cellsV W) v (.sl (l.map byD))) : VR (cellsV W) b (vY l) v := .one (.dv h)
end
end Go.Proofs.Ytpdjehnlejjfmaa.D
