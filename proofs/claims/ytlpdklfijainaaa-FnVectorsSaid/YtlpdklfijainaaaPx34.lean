-- printed by wip/tools/myprint.py, a program of this session's own that drives the kit's printer
import Derived.Test.YtlpdklfijainaaaPx0
import Derived.Test.YtlpdklfijainaaaPx28
import Derived.Test.YtlpdklfijainaaaPx29
import Derived.Test.YtlpdklfijainaaaPx31
import Derived.Test.YtlpdklfijainaaaPx32
import Derived.Test.YtlpdklfijainaaaPx33
namespace Go.Proofs.Ytlpdklfijainaaa.P
open Go.RowKit Go.Proofs.YtlpdklfijainaaaW.PrintWords Go.Proofs.YtlpdklfijainaaaW.PrintLast Go.Proofs.YtlpdklfijainaaaW.PrintMore
attribute [local go_sem] max2_int min2_int max_two min_two max_three min_three max_four min_four   -- for this text's walks alone
set_option linter.unusedVariables false
set_option linter.unusedSimpArgs false

/-! ### laws_FnVectors: function 7 -/
mutual
def laws_FnVectors.j0 : Nat → Int → Int → Bool → List Int → List Int → Option (Bool)
  | 0, _, _, _, _, _ => none
  | k + 1, x5, x6, x46, x713000, x714000 => if x46 = true then (some false) else (if x6 = 0 then ((impl_VecOrder.f k x714000 x713000).bind fun bt718 => ((some (([0, 2, 1, 3] : List Int) : List Int)).bind fun y720 => (if 0 ≤ x5 then (if x5 < (y720.length : Int) then ((impl_VecJoin.f k x713000 x714000).bind fun bt724 => ((impl_VecMeet.f k x713000 x714000).bind fun bt729 => (if bt718.2 = 0 then (if bt724.2 = 0 then (if bt729.2 = 0 then (laws_FnVectors.j1 k (bt718.1 != (rd y720 x5)) x713000 x714000 bt724.1 bt729.1) else (laws_FnVectors.j1 k true x713000 x714000 bt724.1 bt729.1)) else (laws_FnVectors.j1 k true x713000 x714000 bt724.1 bt729.1)) else (laws_FnVectors.j1 k true x713000 x714000 bt724.1 bt729.1)))) else (none)) else (none)))) else (some true))
def laws_FnVectors.j1 : Nat → Bool → List Int → List Int → List Int → List Int → Option (Bool)
  | 0, _, _, _, _, _ => none
  | k + 1, x85, x713000, x714000, x729000, x734000 => if x85 = true then (some false) else (laws_FnVectors.l0 k 0 x713000 x714000 x729000 x734000)
def laws_FnVectors.l0 : Nat → Int → List Int → List Int → List Int → List Int → Option (Bool)
  | 0, _, _, _, _, _ => none
  | k + 1, x16, x713000, x714000, x729000, x734000 => if x16 < 16 then (if 0 ≤ x16 then (if x16 < (x713000.length : Int) then (if x16 < (x714000.length : Int) then (if x16 < (x729000.length : Int) then (if (rd x729000 x16) = (mx (rd x713000 x16) (rd x714000 x16)) then (if x16 < (x734000.length : Int) then (if (rd x734000 x16) = (mn (rd x713000 x16) (rd x714000 x16)) then (laws_FnVectors.l0 k (wrap64 (x16 + 1)) x713000 x714000 x729000 x734000) else (some false)) else (none)) else (some false)) else (none)) else (none)) else (none)) else (none)) else (some true)
end
def laws_FnVectors.f (k : Nat) (l0 : List Int) : Option (Bool) := if (l0.length : Int) > 1048576 then (some true) else ((spec_DrawVecOrder.f k l0).bind fun bt706 => ((impl_VecOrder.f k bt706.1 bt706.2).bind fun bt714 => ((spec_VecOrder.f k bt706.1 bt706.2).bind fun bt716 => (if bt714.2 = bt716.2 then (laws_FnVectors.j0 k bt714.1 bt714.2 (bt714.1 != bt716.1) bt706.1 bt706.2) else (laws_FnVectors.j0 k bt714.1 bt714.2 true bt706.1 bt706.2)))))
theorem laws_FnVectors.mono_l : ∀ k, (∀ y0 y1 y2 y3 y4, LeO (laws_FnVectors.j0 k y0 y1 y2 y3 y4) (laws_FnVectors.j0 (k + 1) y0 y1 y2 y3 y4)) ∧ (∀ y0 y1 y2 y3 y4, LeO (laws_FnVectors.j1 k y0 y1 y2 y3 y4) (laws_FnVectors.j1 (k + 1) y0 y1 y2 y3 y4)) ∧ (∀ y0 y1 y2 y3 y4, LeO (laws_FnVectors.l0 k y0 y1 y2 y3 y4) (laws_FnVectors.l0 (k + 1) y0 y1 y2 y3 y4))
  | 0 => ⟨fun _ _ _ _ _ r h => by simp [laws_FnVectors.j0] at h, fun _ _ _ _ _ r h => by simp [laws_FnVectors.j1] at h, fun _ _ _ _ _ r h => by simp [laws_FnVectors.l0] at h⟩
  | k + 1 => by
    obtain ⟨ih0, ih1, ih2⟩ := laws_FnVectors.mono_l k
    refine ⟨?_, ?_, ?_⟩
    · intro y0 y1 y2 y3 y4
      unfold laws_FnVectors.j0
      repeat' first
      | (with_reducible exact ih0 _ _ _ _ _)
      | (with_reducible exact ih1 _ _ _ _ _)
      | (with_reducible exact ih2 _ _ _ _ _)
      | (with_reducible exact impl_VecJoin.mono _ _ _)
      | (with_reducible exact impl_VecMeet.mono _ _ _)
      | (with_reducible exact impl_VecOrder.mono _ _ _)
      | (with_reducible exact spec_DrawVecOrder.mono _ _)
      | (with_reducible exact spec_VecOrder.mono _ _ _)
      | (with_reducible exact LeO.refl _)
      | (with_reducible exact LeO.none _)
      | (with_reducible refine LeO.ite ?_ ?_)
      | (with_reducible refine LeO.bind ?_ (fun _ => ?_))
      | exact ih0 _ _ _ _ _
      | exact ih1 _ _ _ _ _
      | exact ih2 _ _ _ _ _
      | exact impl_VecJoin.mono _ _ _
      | exact impl_VecMeet.mono _ _ _
      | exact impl_VecOrder.mono _ _ _
      | exact spec_DrawVecOrder.mono _ _
      | exact spec_VecOrder.mono _ _ _
      | exact LeO.none _
      | refine LeO.ite ?_ ?_
      | refine LeO.bind ?_ (fun _ => ?_)
    · intro y0 y1 y2 y3 y4
      unfold laws_FnVectors.j1
      repeat' first
      | (with_reducible exact ih0 _ _ _ _ _)
      | (with_reducible exact ih1 _ _ _ _ _)
      | (with_reducible exact ih2 _ _ _ _ _)
      | (with_reducible exact impl_VecJoin.mono _ _ _)
      | (with_reducible exact impl_VecMeet.mono _ _ _)
      | (with_reducible exact impl_VecOrder.mono _ _ _)
      | (with_reducible exact spec_DrawVecOrder.mono _ _)
      | (with_reducible exact spec_VecOrder.mono _ _ _)
      | (with_reducible exact LeO.refl _)
      | (with_reducible exact LeO.none _)
      | (with_reducible refine LeO.ite ?_ ?_)
      | (with_reducible refine LeO.bind ?_ (fun _ => ?_))
      | exact ih0 _ _ _ _ _
      | exact ih1 _ _ _ _ _
      | exact ih2 _ _ _ _ _
      | exact impl_VecJoin.mono _ _ _
      | exact impl_VecMeet.mono _ _ _
      | exact impl_VecOrder.mono _ _ _
      | exact spec_DrawVecOrder.mono _ _
      | exact spec_VecOrder.mono _ _ _
      | exact LeO.none _
      | refine LeO.ite ?_ ?_
      | refine LeO.bind ?_ (fun _ => ?_)
    · intro y0 y1 y2 y3 y4
      unfold laws_FnVectors.l0
      repeat' first
      | (with_reducible exact ih0 _ _ _ _ _)
      | (with_reducible exact ih1 _ _ _ _ _)
      | (with_reducible exact ih2 _ _ _ _ _)
      | (with_reducible exact impl_VecJoin.mono _ _ _)
      | (with_reducible exact impl_VecMeet.mono _ _ _)
      | (with_reducible exact impl_VecOrder.mono _ _ _)
      | (with_reducible exact spec_DrawVecOrder.mono _ _)
      | (with_reducible exact spec_VecOrder.mono _ _ _)
      | (with_reducible exact LeO.refl _)
      | (with_reducible exact LeO.none _)
      | (with_reducible refine LeO.ite ?_ ?_)
      | (with_reducible refine LeO.bind ?_ (fun _ => ?_))
      | exact ih0 _ _ _ _ _
      | exact ih1 _ _ _ _ _
      | exact ih2 _ _ _ _ _
      | exact impl_VecJoin.mono _ _ _
      | exact impl_VecMeet.mono _ _ _
      | exact impl_VecOrder.mono _ _ _
      | exact spec_DrawVecOrder.mono _ _
      | exact spec_VecOrder.mono _ _ _
      | exact LeO.none _
      | refine LeO.ite ?_ ?_
      | refine LeO.bind ?_ (fun _ => ?_)
theorem laws_FnVectors.mono : ∀ a0 k, LeO (laws_FnVectors.f k a0) (laws_FnVectors.f (k + 1) a0) := by
  intro a0 k
  obtain ⟨ih0, ih1, ih2⟩ := laws_FnVectors.mono_l k
  unfold laws_FnVectors.f
  repeat' first
      | (with_reducible exact ih0 _ _ _ _ _)
      | (with_reducible exact ih1 _ _ _ _ _)
      | (with_reducible exact ih2 _ _ _ _ _)
      | (with_reducible exact impl_VecJoin.mono _ _ _)
      | (with_reducible exact impl_VecMeet.mono _ _ _)
      | (with_reducible exact impl_VecOrder.mono _ _ _)
      | (with_reducible exact spec_DrawVecOrder.mono _ _)
      | (with_reducible exact spec_VecOrder.mono _ _ _)
      | (with_reducible exact LeO.refl _)
      | (with_reducible exact LeO.none _)
      | (with_reducible refine LeO.ite ?_ ?_)
      | (with_reducible refine LeO.bind ?_ (fun _ => ?_))
      | exact ih0 _ _ _ _ _
      | exact ih1 _ _ _ _ _
      | exact ih2 _ _ _ _ _
      | exact impl_VecJoin.mono _ _ _
      | exact impl_VecMeet.mono _ _ _
      | exact impl_VecOrder.mono _ _ _
      | exact spec_DrawVecOrder.mono _ _
      | exact spec_VecOrder.mono _ _ _
      | exact LeO.none _
      | refine LeO.ite ?_ ?_
      | refine LeO.bind ?_ (fun _ => ?_)
set_option maxHeartbeats 8000000 in
set_option maxRecDepth 100000 in
theorem laws_FnVectors.calls (k : Nat) (A0 : Option Addr) (c0 : Nat) (l0 : List Int) (r : Bool) (w : World) (hr0 : Kd.C (Kd.int .u8) w A0 l0.length l0) (hc0 : l0.length ≤ c0) (h : laws_FnVectors.f k l0 = some r) :
    Calls Try.prog 7 #[.slice A0 l0.length c0] w fun e w' => e = .returned (.bool r) ∧ Below w.heap.size w w' := by
  have hu52 := Try.underlying52
  have HR0 := Aside0.mk hr0
  have HC0 := Aside0.mk hc0
  clear hr0 hc0
  have HB := Aside0.mk (Below.refl w.heap.size w)
  have H : (if (l0.length : Int) > 1048576 then (some true) else ((spec_DrawVecOrder.f k l0).bind fun bt706 => ((impl_VecOrder.f k bt706.1 bt706.2).bind fun bt714 => ((spec_VecOrder.f k bt706.1 bt706.2).bind fun bt716 => (if bt714.2 = bt716.2 then (laws_FnVectors.j0 k bt714.1 bt714.2 (bt714.1 != bt716.1) bt706.1 bt706.2) else (laws_FnVectors.j0 k bt714.1 bt714.2 true bt706.1 bt706.2)))))) = some r := h
  clear h
  by_cases c2 : (l0.length : Int) > 1048576
  · rw [if_pos c2] at H
    have c2b0 : decide (1048576 < (l0.length : Int)) = true := decide_eq_true c2
    have c2b1 : decide (1048576 < l0.length) = true := decide_eq_true (by omega)
    clear c2
    obtain rfl := Option.some.inj H
    go_enter Try.func7, Try.ntmps7
    go_wp2
    go_ret
    exact ⟨by first | rfl | (simp [errW_none, errW_some] <;> rfl) | (simp [*, errW_none, errW_some] <;> rfl), by repeat (first | (with_reducible first | exact HB.out | apply below_alloc | apply pw_below_drewN | apply below_drew1) | exact HB.out)⟩
  · rw [if_neg c2] at H
    have c2b0 : decide (1048576 < (l0.length : Int)) = false := decide_eq_false c2
    have c2b1 : decide (1048576 < l0.length) = false := decide_eq_false (by omega)
    clear c2
    replace H := Option.bind_eq_some_iff.mp H
    obtain ⟨⟨t706, t709⟩, A30, H⟩ := H
    replace H : ((impl_VecOrder.f k t706 t709).bind fun bt714 => ((spec_VecOrder.f k t706 t709).bind fun bt716 => (if bt714.2 = bt716.2 then (laws_FnVectors.j0 k bt714.1 bt714.2 (bt714.1 != bt716.1) t706 t709) else (laws_FnVectors.j0 k bt714.1 bt714.2 true t706 t709)))) = some r := H
    have A3 := Aside0.mk A30
    clear A30
    replace H := Option.bind_eq_some_iff.mp H
    obtain ⟨⟨t714, t715⟩, A40, H⟩ := H
    replace H : ((spec_VecOrder.f k t706 t709).bind fun bt716 => (if t715 = bt716.2 then (laws_FnVectors.j0 k t714 t715 (t714 != bt716.1) t706 t709) else (laws_FnVectors.j0 k t714 t715 true t706 t709))) = some r := H
    have A4 := Aside0.mk A40
    clear A40
    replace H := Option.bind_eq_some_iff.mp H
    obtain ⟨⟨t716, t717⟩, A50, H⟩ := H
    replace H : (if t715 = t717 then (laws_FnVectors.j0 k t714 t715 (t714 != t716) t706 t709) else (laws_FnVectors.j0 k t714 t715 true t706 t709)) = some r := H
    have A5 := Aside0.mk A50
    clear A50
    have HC6 := Aside0.mk H
    clear H
    go_enter Try.func7, Try.ntmps7
    go_upto_region 6 with (first | ((with_reducible refine gate_callee (f := 27) rfl ?_); refine goesL_ (some 24) rfl rfl Try.func27 (by kernel_rfl) rfl #[.slice A0 l0.length c0] rfl (by (try simp only [List.map_toArray, List.map_cons, List.map_nil]); first | done | rfl | (simp only [List.length_drop, List.length_take]; rfl)) ?_; (with_reducible refine (spec_DrawVecOrder.calls k _ _ l0 t706 t709 _ ?side1 ?side2 A3.out).mono ?_); (case side1 => repeat (first | exact HR0.out | (with_reducible refine Kd.C_alloc ?_ _) | (with_reducible refine Kd.C_drewN ?_ _) | (with_reducible refine Kd.C_drew ?_))); (case side2 => exact HC0.out); rintro e w7 ⟨v707, v710, rfl, ho0, ho1, hb⟩; refine ⟨_, rfl, ?_⟩; have n0_ := Aside0.mk (Kd.R_lower ho0 (below_size (by repeat (first | (with_reducible first | exact HB.out | apply below_alloc | apply pw_below_drewN | apply below_drew1) | exact HB.out)))); have n1_ := Aside0.mk (Kd.R_lower ho1 (below_size (by repeat (first | (with_reducible first | exact HB.out | apply below_alloc | apply pw_below_drewN | apply below_drew1) | exact HB.out)))); have n2_ := Aside0.mk (below_step (by repeat (first | (with_reducible first | exact HB.out | apply below_alloc | apply pw_below_drewN | apply below_drew1) | exact HB.out)) hb); clear HB; have HO708 := n0_; have HO711 := n1_; have HB := n2_; clear n0_ n1_ n2_; (try clear hb); (try clear hb2); (try clear hk); (try clear hi); (try clear ho0); (try clear ho1)) | ((with_reducible refine gate_dst (N := 3) rfl ?_); (try (refine gate_guard (by rfl) ?_; dsimp only)); refine box_event ?hg (N := 3) ?hd (cs := #[.slice none 0 0]) (t := 52) ?hr ?_; (case hd => rfl); (case hg => rfl); (case hr => first | (go_simp; done) | (go_simp; rfl)); intro gb712 hg w8 hbox hb; have n0_ := Aside0.mk (Kd.R_below (by (with_reducible repeat (first | apply Kd.R_alloc | apply Kd.R_drewN | apply Kd.R_drew)); exact HO708.out) hb); have n1_ := Aside0.mk (Kd.R_below (by (with_reducible repeat (first | apply Kd.R_alloc | apply Kd.R_drewN | apply Kd.R_drew)); exact HO711.out) hb); have n2_ := Aside0.mk (below_step (by repeat (first | (with_reducible first | exact HB.out | apply below_alloc | apply pw_below_drewN | apply below_drew1) | exact HB.out)) hb); have n3_ := Aside0.mk (hbox); have n4_ := Aside0.mk ((by rw [hg]; exact (below_size (by repeat (first | (with_reducible first | exact HB.out | apply below_alloc | apply pw_below_drewN | apply below_drew1) | exact HB.out))) : w.heap.size ≤ gb712)); have n5_ := Aside0.mk ((by rw [hg]; exact (below_size (by repeat (first | (with_reducible first | exact HB.out | apply below_alloc | apply pw_below_drewN | apply below_drew1) | exact HB.out))) : w.heap.size ≤ gb712)); clear HO708; clear HO711; clear HB; have HO708 := n0_; have HO711 := n1_; have HB := n2_; have BK712 := n3_; have GW712 := n4_; have GE712 := n5_; clear n0_ n1_ n2_ n3_ n4_ n5_; clear hb hbox hg) | ((with_reducible refine gate_dst (N := 4) rfl ?_); (try (refine gate_guard (by rfl) ?_; dsimp only)); refine box_event ?hg (N := 4) ?hd (cs := #[.slice none 0 0]) (t := 52) ?hr ?_; (case hd => rfl); (case hg => rfl); (case hr => first | (go_simp; done) | (go_simp; rfl)); intro gb713 hg w9 hbox hb; have n0_ := Aside0.mk (Kd.R_below (by (with_reducible repeat (first | apply Kd.R_alloc | apply Kd.R_drewN | apply Kd.R_drew)); exact HO708.out) hb); have n1_ := Aside0.mk (Kd.R_below (by (with_reducible repeat (first | apply Kd.R_alloc | apply Kd.R_drewN | apply Kd.R_drew)); exact HO711.out) hb); have n2_ := Aside0.mk (blk_below (g := gb712) (o := .cells #[.slice none 0 0] 52 (0, 0)) (by (with_reducible repeat (first | refine blk_drewN ?_ _ | refine blk_drew ?_ | refine blk_alloc ?_ _)); exact BK712.out) hb); have n3_ := Aside0.mk (below_step (by repeat (first | (with_reducible first | exact HB.out | apply below_alloc | apply pw_below_drewN | apply below_drew1 | refine below_set ?_ GE712.out) | exact HB.out)) hb); have n4_ := Aside0.mk (hbox); have n5_ := Aside0.mk ((by rw [hg]; exact (below_size (by repeat (first | (with_reducible first | exact HB.out | apply below_alloc | apply pw_below_drewN | apply below_drew1 | refine below_set ?_ GE712.out) | exact HB.out))) : w.heap.size ≤ gb713)); have n6_ := Aside0.mk ((by rw [hg]; exact (below_size (by repeat (first | (with_reducible first | exact HB.out | apply below_alloc | apply pw_below_drewN | apply below_drew1 | refine below_set ?_ GE712.out) | exact HB.out))) : w.heap.size ≤ gb713)); have n7_ := Aside0.mk ((by rw [hg]; exact Nat.ne_of_lt (blk_lt (g := gb712) (o := .cells #[.slice none 0 0] 52 (0, 0)) (by (with_reducible repeat (first | refine blk_drewN ?_ _ | refine blk_drew ?_ | refine blk_alloc ?_ _)); exact BK712.out)) : gb712 ≠ gb713)); have n8_ := Aside0.mk ((by rw [hg]; exact Nat.ne_of_gt (blk_lt (g := gb712) (o := .cells #[.slice none 0 0] 52 (0, 0)) (by (with_reducible repeat (first | refine blk_drewN ?_ _ | refine blk_drew ?_ | refine blk_alloc ?_ _)); exact BK712.out)) : gb713 ≠ gb712)); clear HO708; clear HO711; clear BK712; clear HB; have HO708 := n0_; have HO711 := n1_; have BK712 := n2_; have HB := n3_; have BK713 := n4_; have GW713 := n5_; have GE713 := n6_; have NB712_713 := n7_; have NB713_712 := n8_; clear n0_ n1_ n2_ n3_ n4_ n5_ n6_ n7_ n8_; clear hb hbox hg; obtain ⟨Ao10, co10, eo10⟩ := Kd.R_slice HO708.out; subst eo10; have hnb11 := NB712_713.out; have hnc11 := NB713_712.out; have hcz12_0 : w9.cell? ⟨gb712, 0, none⟩ = some (.slice none 0 0) := (blk_cell BK712.out 0).trans rfl; have hfz12_0 := blk_frozen BK712.out 0; obtain ⟨Ao13, co13, eo13⟩ := Kd.R_slice HO711.out; subst eo13; have hcz14_0 : w9.cell? ⟨gb713, 0, none⟩ = some (.slice none 0 0) := (blk_cell BK713.out 0).trans rfl; have hfz14_0 := blk_frozen BK713.out 0) | ((with_reducible refine gate_callee (f := 28) rfl ?_); refine goesL_ (some 30) rfl rfl Try.func28 (by kernel_rfl) rfl #[.agg #[.slice Ao10 t706.length co10], .agg #[.slice Ao13 t709.length co13]] rfl (by (try simp only [List.map_toArray, List.map_cons, List.map_nil]); first | done | rfl | (simp only [List.length_drop, List.length_take]; rfl)) ?_; (with_reducible refine (impl_VecOrder.calls k _ _ t706 _ _ t709 t714 t715 _ ?side1 ?side2 ?side3 ?side4 A4.out).mono ?_); (case side1 => refine (Kd.R_reads' (e := 3) (base := w.heap.size) (ok := fun k_ => some k_ ≠ (.slice Ao13 t709.length co13 : Value).ownBlock) (n := t706.length) (c := co10) ?_).2.2; exact (by (with_reducible repeat (first | apply Kd.R_alloc | apply Kd.R_drewN | apply Kd.R_drew)); exact (Kd.R_mono (Kd.R_mono (Kd.R_far (p := ⟨gb713, 0, none⟩) (Kd.R_far (p := ⟨gb712, 0, none⟩) (Kd.R_types (Kd.R_types HO708.out BK712.out (by decide)) BK713.out (by decide)) (fun _ hk => hk.1.2) (.slice Ao10 t706.length co10)) (fun _ hk => hk.2) (.slice Ao13 t709.length co13)) (fun _ h_ => h_.1)) (fun _ h_ => h_.1)))); (case side2 => exact (Kd.R_reads' HO708.out).2.1); (case side3 => refine (Kd.R_reads' (e := 3) (base := w.heap.size) (ok := fun k_ => some k_ ≠ (.slice Ao10 t706.length co10 : Value).ownBlock) (n := t709.length) (c := co13) ?_).2.2; exact (by (with_reducible repeat (first | apply Kd.R_alloc | apply Kd.R_drewN | apply Kd.R_drew)); exact (Kd.R_mono (Kd.R_mono (Kd.R_far (p := ⟨gb713, 0, none⟩) (Kd.R_far (p := ⟨gb712, 0, none⟩) (Kd.R_types (Kd.R_types HO711.out BK712.out (by decide)) BK713.out (by decide)) (fun _ hk => hk.1.2) (.slice Ao10 t706.length co10)) (fun _ hk => hk.2) (.slice Ao13 t709.length co13)) (fun _ h_ => h_.1)) (fun _ h_ => h_.1)))); (case side4 => exact (Kd.R_reads' HO711.out).2.1); rintro e w15 ⟨rfl, hb⟩; refine ⟨_, rfl, ?_⟩; have n0_ := Aside0.mk (Kd.R_below (by (with_reducible repeat (first | apply Kd.R_alloc | apply Kd.R_drewN | apply Kd.R_drew)); exact (Kd.R_mono (Kd.R_mono (Kd.R_far (p := ⟨gb713, 0, none⟩) (Kd.R_far (p := ⟨gb712, 0, none⟩) (Kd.R_types (Kd.R_types HO708.out BK712.out (by decide)) BK713.out (by decide)) (fun _ hk => hk.1.2) (.slice Ao10 t706.length co10)) (fun _ hk => hk.2) (.slice Ao13 t709.length co13)) (fun _ h_ => h_.1)) (fun _ h_ => h_.1))) hb); have n1_ := Aside0.mk (Kd.R_below (by (with_reducible repeat (first | apply Kd.R_alloc | apply Kd.R_drewN | apply Kd.R_drew)); exact (Kd.R_mono (Kd.R_mono (Kd.R_far (p := ⟨gb713, 0, none⟩) (Kd.R_far (p := ⟨gb712, 0, none⟩) (Kd.R_types (Kd.R_types HO711.out BK712.out (by decide)) BK713.out (by decide)) (fun _ hk => hk.1.2) (.slice Ao10 t706.length co10)) (fun _ hk => hk.2) (.slice Ao13 t709.length co13)) (fun _ h_ => h_.1)) (fun _ h_ => h_.1))) hb); have n2_ := Aside0.mk (blk_below (g := gb712) (o := .cells #[.slice Ao10 t706.length co10] 52 (0, 0)) (by (with_reducible repeat (first | refine blk_drewN ?_ _ | refine blk_drew ?_ | refine blk_alloc ?_ _)); refine blk_far ?_ NB712_713.out _; (with_reducible repeat (first | refine blk_drewN ?_ _ | refine blk_drew ?_ | refine blk_alloc ?_ _)); refine blk_put (cs := #[.slice none 0 0]) ?_ 0 _ rfl; (with_reducible repeat (first | refine blk_drewN ?_ _ | refine blk_drew ?_ | refine blk_alloc ?_ _)); exact BK712.out) hb); have n3_ := Aside0.mk (blk_below (g := gb713) (o := .cells #[.slice Ao13 t709.length co13] 52 (0, 0)) (by (with_reducible repeat (first | refine blk_drewN ?_ _ | refine blk_drew ?_ | refine blk_alloc ?_ _)); refine blk_put (cs := #[.slice none 0 0]) ?_ 0 _ rfl; (with_reducible repeat (first | refine blk_drewN ?_ _ | refine blk_drew ?_ | refine blk_alloc ?_ _)); refine blk_far ?_ NB713_712.out _; (with_reducible repeat (first | refine blk_drewN ?_ _ | refine blk_drew ?_ | refine blk_alloc ?_ _)); exact BK713.out) hb); have n4_ := Aside0.mk (below_step (by repeat (first | (with_reducible first | exact HB.out | apply below_alloc | apply pw_below_drewN | apply below_drew1 | refine below_set ?_ GE712.out | refine below_set ?_ GE713.out) | exact HB.out)) hb); clear HO708; clear HO711; clear BK712; clear BK713; clear HB; have HO708 := n0_; have HO711 := n1_; have BK712 := n2_; have BK713 := n3_; have HB := n4_; clear n0_ n1_ n2_ n3_ n4_; (try clear hb); (try clear hb2); (try clear hk); (try clear hi); have hcz16_0 : w15.cell? ⟨gb712, 0, none⟩ = some (.slice Ao10 t706.length co10) := (blk_cell BK712.out 0).trans rfl; have hfz16_0 := blk_frozen BK712.out 0; have hcz17_0 : w15.cell? ⟨gb713, 0, none⟩ = some (.slice Ao13 t709.length co13) := (blk_cell BK713.out 0).trans rfl; have hfz17_0 := blk_frozen BK713.out 0) | ((with_reducible refine gate_callee (f := 29) rfl ?_); refine goesL_ (some 36) rfl rfl Try.func29 (by kernel_rfl) rfl #[.agg #[.slice Ao10 t706.length co10], .agg #[.slice Ao13 t709.length co13]] rfl (by (try simp only [List.map_toArray, List.map_cons, List.map_nil]); first | done | rfl | (simp only [List.length_drop, List.length_take]; rfl)) ?_; (with_reducible refine (spec_VecOrder.calls k _ _ t706 _ _ t709 t716 t717 _ ?side1 ?side2 ?side3 ?side4 A5.out).mono ?_); (case side1 => repeat (first | exact (Kd.R_reads' HO708.out).2.2 | (with_reducible refine Kd.C_alloc ?_ _) | (with_reducible refine Kd.C_drewN ?_ _) | (with_reducible refine Kd.C_drew ?_))); (case side2 => exact (Kd.R_reads' HO708.out).2.1); (case side3 => repeat (first | exact (Kd.R_reads' HO711.out).2.2 | (with_reducible refine Kd.C_alloc ?_ _) | (with_reducible refine Kd.C_drewN ?_ _) | (with_reducible refine Kd.C_drew ?_))); (case side4 => exact (Kd.R_reads' HO711.out).2.1); rintro e w18 ⟨rfl, hb⟩; refine ⟨_, rfl, ?_⟩; have n0_ := Aside0.mk (Kd.R_below (by (with_reducible repeat (first | apply Kd.R_alloc | apply Kd.R_drewN | apply Kd.R_drew)); exact HO708.out) hb); have n1_ := Aside0.mk (Kd.R_below (by (with_reducible repeat (first | apply Kd.R_alloc | apply Kd.R_drewN | apply Kd.R_drew)); exact HO711.out) hb); have n2_ := Aside0.mk (blk_below (g := gb712) (o := .cells #[.slice Ao10 t706.length co10] 52 (0, 0)) (by (with_reducible repeat (first | refine blk_drewN ?_ _ | refine blk_drew ?_ | refine blk_alloc ?_ _)); exact BK712.out) hb); have n3_ := Aside0.mk (blk_below (g := gb713) (o := .cells #[.slice Ao13 t709.length co13] 52 (0, 0)) (by (with_reducible repeat (first | refine blk_drewN ?_ _ | refine blk_drew ?_ | refine blk_alloc ?_ _)); exact BK713.out) hb); have n4_ := Aside0.mk (below_step (by repeat (first | (with_reducible first | exact HB.out | apply below_alloc | apply pw_below_drewN | apply below_drew1 | refine below_set ?_ GE712.out | refine below_set ?_ GE713.out) | exact HB.out)) hb); clear HO708; clear HO711; clear BK712; clear BK713; clear HB; have HO708 := n0_; have HO711 := n1_; have BK712 := n2_; have BK713 := n3_; have HB := n4_; clear n0_ n1_ n2_ n3_ n4_; (try clear hb); (try clear hb2); (try clear hk); (try clear hi)))
    (try simp only [Act.put, List.setIfInBounds_toArray, List.set_cons_zero, List.set_cons_succ])
    go_cut [46] (fun v46 wc => ∃ (kq : Nat) (x46_5 : Bool), v46 = .bool x46_5 ∧ Aside0 (laws_FnVectors.j0 kq t714 t715 x46_5 t706 t709 = some r) ∧ Aside0 (kq ≤ k) ∧ Aside0 (Kd.R (Kd.int .i64) 3 wc w.heap.size (fun k_ => some k_ ≠ ((.slice Ao13 t709.length co13) : Value).ownBlock) (.slice Ao10 t706.length co10) t706) ∧ Aside0 (Kd.R (Kd.int .i64) 3 wc w.heap.size (fun k_ => some k_ ≠ ((.slice Ao10 t706.length co10) : Value).ownBlock) (.slice Ao13 t709.length co13) t709) ∧ Aside0 (wc.heap[gb712]? = some (.cells #[(.slice Ao10 t706.length co10)] 52 (0, 0))) ∧ Aside0 (wc.heap[gb713]? = some (.cells #[(.slice Ao13 t709.length co13)] 52 (0, 0))) ∧ Aside0 (Below w.heap.size w wc))
    case first =>
      have H := HC6.out
      clear HC6
      by_cases c19 : t715 = t717
      · rw [if_pos c19] at H
        have c19b0 : (t715 == t717) = true := beq_iff_eq.mpr c19
        have c19b1 : (t715 != t717) = false := bne_eq_false_iff_eq.mpr c19
        clear c19
        (first | rw [c19b0] | (simp only [i64_w, i32_w]; rw [c19b0]) | skip)
        have H' := Aside0.mk H
        clear H
        go_wp2
        go_meet
        case rel => exact ⟨_, ((t714 != t716)), (by first | rfl | (simp; done) | (simp [*]; done)), H', ⟨by first | omega | exact Nat.le_refl _⟩, ⟨by (with_reducible repeat (first | apply Kd.R_alloc | apply Kd.R_drewN | apply Kd.R_drew)); exact HO708.out⟩, ⟨by (with_reducible repeat (first | apply Kd.R_alloc | apply Kd.R_drewN | apply Kd.R_drew)); exact HO711.out⟩, ⟨by (with_reducible repeat (first | refine blk_drewN ?_ _ | refine blk_drew ?_ | refine blk_alloc ?_ _)); exact BK712.out⟩, ⟨by (with_reducible repeat (first | refine blk_drewN ?_ _ | refine blk_drew ?_ | refine blk_alloc ?_ _)); exact BK713.out⟩, ⟨by repeat (first | (with_reducible first | exact HB.out | apply below_alloc | apply pw_below_drewN | apply below_drew1 | refine below_set ?_ GE712.out | refine below_set ?_ GE713.out) | exact HB.out)⟩⟩
      · rw [if_neg c19] at H
        have c19b0 : (t715 == t717) = false := beq_eq_false_iff_ne.mpr c19
        have c19b1 : (t715 != t717) = true := bne_iff_ne.mpr c19
        (first | rw [c19b0] | (simp only [i64_w, i32_w]; rw [c19b0]) | skip)
        have H' := Aside0.mk H
        clear H
        go_wp2
        go_meet
        case rel => exact ⟨_, (true), (by first | rfl | (simp; done) | (simp [*]; done)), H', ⟨by first | omega | exact Nat.le_refl _⟩, ⟨by (with_reducible repeat (first | apply Kd.R_alloc | apply Kd.R_drewN | apply Kd.R_drew)); exact HO708.out⟩, ⟨by (with_reducible repeat (first | apply Kd.R_alloc | apply Kd.R_drewN | apply Kd.R_drew)); exact HO711.out⟩, ⟨by (with_reducible repeat (first | refine blk_drewN ?_ _ | refine blk_drew ?_ | refine blk_alloc ?_ _)); exact BK712.out⟩, ⟨by (with_reducible repeat (first | refine blk_drewN ?_ _ | refine blk_drew ?_ | refine blk_alloc ?_ _)); exact BK713.out⟩, ⟨by repeat (first | (with_reducible first | exact HB.out | apply below_alloc | apply pw_below_drewN | apply below_drew1 | refine below_set ?_ GE712.out | refine below_set ?_ GE713.out) | exact HB.out)⟩⟩
    case rest =>
      clear HC6
      try clear c1
      try clear c2
      try clear c2b0
      try clear c2b1
      try clear p2
      try clear c7
      try clear c11
      try clear c19
      try clear c19b0
      try clear c19b1
      try clear hcz12_0
      try clear hcz14_0
      try clear hcz16_0
      try clear hcz17_0
      try clear hfz12_0
      try clear hfz14_0
      try clear hfz16_0
      try clear hfz17_0
      obtain ⟨kq, x46_5, rfl, HA, HJ5, HO_713000, HO_714000, BK712, BK713, HB⟩ := hcut
      cases kq with
      | zero => exact absurd HA.out (by simp [laws_FnVectors.j0])
      | succ kj5 =>
        have H := HA.out
        clear HA
        simp only [laws_FnVectors.j0] at H
        by_cases c20 : x46_5 = true
        · subst c20
          have H1 : (some false) = some r := by rw [if_pos rfl] at H; exact H
          clear H
          have H := H1
          clear H1
          obtain rfl := Option.some.inj H
          go_wp2
          go_ret
          exact ⟨by first | rfl | (simp [errW_none, errW_some] <;> rfl) | (simp [*, errW_none, errW_some] <;> rfl), by repeat (first | (with_reducible first | exact HB.out | apply below_alloc | apply pw_below_drewN | apply below_drew1 | refine below_set ?_ GE712.out | refine below_set ?_ GE713.out) | exact HB.out)⟩
        · replace c20 := Bool.eq_false_iff.mpr c20
          subst c20
          have H1 : (if t715 = 0 then ((impl_VecOrder.f kj5 t709 t706).bind fun bt718 => ((some (([0, 2, 1, 3] : List Int) : List Int)).bind fun y720 => (if 0 ≤ t714 then (if t714 < (y720.length : Int) then ((impl_VecJoin.f kj5 t706 t709).bind fun bt724 => ((impl_VecMeet.f kj5 t706 t709).bind fun bt729 => (if bt718.2 = 0 then (if bt724.2 = 0 then (if bt729.2 = 0 then (laws_FnVectors.j1 kj5 (bt718.1 != (rd y720 t714)) t706 t709 bt724.1 bt729.1) else (laws_FnVectors.j1 kj5 true t706 t709 bt724.1 bt729.1)) else (laws_FnVectors.j1 kj5 true t706 t709 bt724.1 bt729.1)) else (laws_FnVectors.j1 kj5 true t706 t709 bt724.1 bt729.1)))) else (none)) else (none)))) else (some true)) = some r := by rw [if_neg (show ¬ (false = true) by decide)] at H; exact H
          clear H
          have H := H1
          clear H1
          by_cases c21 : t715 = 0
          · rw [if_pos c21] at H
            have c21b0 : (t715 == 0) = true := beq_iff_eq.mpr c21
            have c21b1 : (t715 != 0) = false := bne_eq_false_iff_eq.mpr c21
            clear c21
            replace H := Option.bind_eq_some_iff.mp H
            obtain ⟨⟨t718, t719⟩, A220, H⟩ := H
            replace H : ((some (([0, 2, 1, 3] : List Int) : List Int)).bind fun y720 => (if 0 ≤ t714 then (if t714 < (y720.length : Int) then ((impl_VecJoin.f kj5 t706 t709).bind fun bt724 => ((impl_VecMeet.f kj5 t706 t709).bind fun bt729 => (if t719 = 0 then (if bt724.2 = 0 then (if bt729.2 = 0 then (laws_FnVectors.j1 kj5 (t718 != (rd y720 t714)) t706 t709 bt724.1 bt729.1) else (laws_FnVectors.j1 kj5 true t706 t709 bt724.1 bt729.1)) else (laws_FnVectors.j1 kj5 true t706 t709 bt724.1 bt729.1)) else (laws_FnVectors.j1 kj5 true t706 t709 bt724.1 bt729.1)))) else (none)) else (none))) = some r := H
            have A22 := Aside0.mk A220
            clear A220
            obtain ⟨y720, hy720⟩ : ∃ y_ : List Int, y_ = (([0, 2, 1, 3] : List Int)) := ⟨_, rfl⟩
            replace H : (if 0 ≤ t714 then (if t714 < (y720.length : Int) then ((impl_VecJoin.f kj5 t706 t709).bind fun bt724 => ((impl_VecMeet.f kj5 t706 t709).bind fun bt729 => (if t719 = 0 then (if bt724.2 = 0 then (if bt729.2 = 0 then (laws_FnVectors.j1 kj5 (t718 != (rd y720 t714)) t706 t709 bt724.1 bt729.1) else (laws_FnVectors.j1 kj5 true t706 t709 bt724.1 bt729.1)) else (laws_FnVectors.j1 kj5 true t706 t709 bt724.1 bt729.1)) else (laws_FnVectors.j1 kj5 true t706 t709 bt724.1 bt729.1)))) else (none)) else (none)) = some r := by first | (rw [hy720]; with_reducible exact H) | (have H2_ := (Option.bind_some _ _).symm.trans H; rw [hy720]; with_reducible exact H2_) | (have H2_ := (Option.bind_some _ _).symm.trans H; with_reducible exact H2_) | with_reducible exact H | (rw [hy720]; exact H) | exact H
            have Ny720 := Aside0.mk hy720
            clear hy720
            by_cases c23 : 0 ≤ t714
            · rw [if_pos c23] at H
              have c23b0 : decide (0 ≤ t714) = true := decide_eq_true c23
              clear c23
              by_cases c24 : t714 < (y720.length : Int)
              · rw [if_pos c24] at H
                have c24b0 : decide (t714 < (y720.length : Int)) = true := decide_eq_true c24
                clear c24
                replace H := Option.bind_eq_some_iff.mp H
                obtain ⟨⟨t724, t727⟩, A250, H⟩ := H
                replace H : ((impl_VecMeet.f kj5 t706 t709).bind fun bt729 => (if t719 = 0 then (if t727 = 0 then (if bt729.2 = 0 then (laws_FnVectors.j1 kj5 (t718 != (rd y720 t714)) t706 t709 t724 bt729.1) else (laws_FnVectors.j1 kj5 true t706 t709 t724 bt729.1)) else (laws_FnVectors.j1 kj5 true t706 t709 t724 bt729.1)) else (laws_FnVectors.j1 kj5 true t706 t709 t724 bt729.1))) = some r := H
                have A25 := Aside0.mk A250
                clear A250
                replace H := Option.bind_eq_some_iff.mp H
                obtain ⟨⟨t729, t732⟩, A260, H⟩ := H
                replace H : (if t719 = 0 then (if t727 = 0 then (if t732 = 0 then (laws_FnVectors.j1 kj5 (t718 != (rd y720 t714)) t706 t709 t724 t729) else (laws_FnVectors.j1 kj5 true t706 t709 t724 t729)) else (laws_FnVectors.j1 kj5 true t706 t709 t724 t729)) else (laws_FnVectors.j1 kj5 true t706 t709 t724 t729)) = some r := H
                have A26 := Aside0.mk A260
                clear A260
                have HC27 := Aside0.mk H
                clear H
                have hnb28 := NB713_712.out
                have hnc28 := NB712_713.out
                have hcz29_0 : wc.cell? ⟨gb713, 0, none⟩ = some (.slice Ao13 t709.length co13) := (blk_cell BK713.out 0).trans rfl
                have hfz29_0 := blk_frozen BK713.out 0
                have hcz30_0 : wc.cell? ⟨gb712, 0, none⟩ = some (.slice Ao10 t706.length co10) := (blk_cell BK712.out 0).trans rfl
                have hfz30_0 := blk_frozen BK712.out 0
                go_upto_region 14 with (first | ((with_reducible refine gate_callee (f := 28) rfl ?_); refine goesL_ (some 52) rfl rfl Try.func28 (by kernel_rfl) rfl #[.agg #[.slice Ao13 t709.length co13], .agg #[.slice Ao10 t706.length co10]] rfl (by (try simp only [List.map_toArray, List.map_cons, List.map_nil]); first | done | rfl | (simp only [List.length_drop, List.length_take]; rfl)) ?_; (with_reducible refine (impl_VecOrder.calls kj5 _ _ t709 _ _ t706 t718 t719 _ ?side1 ?side2 ?side3 ?side4 A22.out).mono ?_); (case side1 => repeat (first | exact (Kd.R_reads' HO_714000.out).2.2 | (with_reducible refine Kd.C_alloc ?_ _) | (with_reducible refine Kd.C_drewN ?_ _) | (with_reducible refine Kd.C_drew ?_))); (case side2 => exact (Kd.R_reads' HO_714000.out).2.1); (case side3 => repeat (first | exact (Kd.R_reads' HO_713000.out).2.2 | (with_reducible refine Kd.C_alloc ?_ _) | (with_reducible refine Kd.C_drewN ?_ _) | (with_reducible refine Kd.C_drew ?_))); (case side4 => exact (Kd.R_reads' HO_713000.out).2.1); rintro e w31 ⟨rfl, hb⟩; refine ⟨_, rfl, ?_⟩; have n0_ := Aside0.mk (Kd.R_below (by (with_reducible repeat (first | apply Kd.R_alloc | apply Kd.R_drewN | apply Kd.R_drew)); exact HO_713000.out) hb); have n1_ := Aside0.mk (Kd.R_below (by (with_reducible repeat (first | apply Kd.R_alloc | apply Kd.R_drewN | apply Kd.R_drew)); exact HO_714000.out) hb); have n2_ := Aside0.mk (blk_below (g := gb712) (o := .cells #[.slice Ao10 t706.length co10] 52 (0, 0)) (by (with_reducible repeat (first | refine blk_drewN ?_ _ | refine blk_drew ?_ | refine blk_alloc ?_ _)); exact BK712.out) hb); have n3_ := Aside0.mk (blk_below (g := gb713) (o := .cells #[.slice Ao13 t709.length co13] 52 (0, 0)) (by (with_reducible repeat (first | refine blk_drewN ?_ _ | refine blk_drew ?_ | refine blk_alloc ?_ _)); exact BK713.out) hb); have n4_ := Aside0.mk (below_step (by repeat (first | (with_reducible first | exact HB.out | apply below_alloc | apply pw_below_drewN | apply below_drew1 | refine below_set ?_ GE712.out | refine below_set ?_ GE713.out) | exact HB.out)) hb); clear HO_713000; clear HO_714000; clear BK712; clear BK713; clear HB; have HO_713000 := n0_; have HO_714000 := n1_; have BK712 := n2_; have BK713 := n3_; have HB := n4_; clear n0_ n1_ n2_ n3_ n4_; (try clear hb); (try clear hb2); (try clear hk); (try clear hi)) | ((with_reducible refine gate_dst (N := 55) rfl ?_); (try (refine gate_guard (by rfl) ?_; dsimp only)); refine Kd.R_lit (Kd.int .i64) _ 3 ?hg (N := 55) ?hd (xs := ([0, 2, 1, 3] : List Int)) (inner := [.int .i64 0, .int .i64 2, .int .i64 1, .int .i64 3]) (ok := fun _ => True) (okp := fun _ => True) ?hr ?hp (fun _ hk => hk) trivial (Below.refl _ _) (Nat.le_refl _) (by simp) ?_; (case hd => rfl); (case hg => rfl); (case hr => first | (go_simp; done) | (go_simp; rfl)); (case hp => exact (Reps.one (show Kd.M (Kd.int .i64) _ _ _ 0 [.int .i64 0] from rfl) (Reps.one (show Kd.M (Kd.int .i64) _ _ _ 2 [.int .i64 2] from rfl) (Reps.one (show Kd.M (Kd.int .i64) _ _ _ 1 [.int .i64 1] from rfl) (Reps.one (show Kd.M (Kd.int .i64) _ _ _ 3 [.int .i64 3] from rfl) (Reps.none _ _)))))); intro v721 w32 ho33 hb hg_ hnew_; clear hg_ hnew_; (first | rw [← Ny720.out] at ho33 | (simp only [Int.reduceToNat] at ho33; rw [← Ny720.out] at ho33)); have n0_ := Aside0.mk (Kd.R_elder' (by (with_reducible repeat (first | apply Kd.R_alloc | apply Kd.R_drewN | apply Kd.R_drew)); exact HO_713000.out) (Kd.R_base ho33) hb); have n1_ := Aside0.mk (Kd.R_elder' (by (with_reducible repeat (first | apply Kd.R_alloc | apply Kd.R_drewN | apply Kd.R_drew)); exact HO_714000.out) (Kd.R_base ho33) hb); have n2_ := Aside0.mk (Kd.R_lower (Kd.R_new' (Kd.R_new' ho33 (Kd.R_lt (by (with_reducible repeat (first | apply Kd.R_alloc | apply Kd.R_drewN | apply Kd.R_drew)); exact HO_713000.out))) (Kd.R_lt (by (with_reducible repeat (first | apply Kd.R_alloc | apply Kd.R_drewN | apply Kd.R_drew)); exact HO_714000.out))) (below_size (by repeat (first | (with_reducible first | exact HB.out | apply below_alloc | apply pw_below_drewN | apply below_drew1 | refine below_set ?_ GE712.out | refine below_set ?_ GE713.out) | exact HB.out)))); have n3_ := Aside0.mk (blk_below (g := gb712) (o := .cells #[.slice Ao10 t706.length co10] 52 (0, 0)) (by (with_reducible repeat (first | refine blk_drewN ?_ _ | refine blk_drew ?_ | refine blk_alloc ?_ _)); exact BK712.out) hb); have n4_ := Aside0.mk (blk_below (g := gb713) (o := .cells #[.slice Ao13 t709.length co13] 52 (0, 0)) (by (with_reducible repeat (first | refine blk_drewN ?_ _ | refine blk_drew ?_ | refine blk_alloc ?_ _)); exact BK713.out) hb); have n5_ := Aside0.mk (below_step (by repeat (first | (with_reducible first | exact HB.out | apply below_alloc | apply pw_below_drewN | apply below_drew1 | refine below_set ?_ GE712.out | refine below_set ?_ GE713.out) | exact HB.out)) hb); clear HO_713000; clear HO_714000; clear BK712; clear BK713; clear HB; have HO_713000 := n0_; have HO_714000 := n1_; have HO722 := n2_; have BK712 := n3_; have BK713 := n4_; have HB := n5_; clear n0_ n1_ n2_ n3_ n4_ n5_; clear hb ho33; obtain ⟨Ao34, co34, eo34⟩ := Kd.R_slice HO722.out; subst eo34; have p723 : 0 ≤ (t714 : Int) := of_decide_eq_true (by first | (with_reducible assumption) | assumption); have q723 : t714 < (y720.length : Int) := of_decide_eq_true (by first | (with_reducible assumption) | assumption); obtain ⟨ad723, e723, hx723_0⟩ := Kd.at_int (Kd.R_reads' HO722.out).2.2 t714 p723 q723; cases e723; replace p723 := eq_true p723; replace q723 := eq_true q723; have hcz35_0 : w32.cell? ⟨gb712, 0, none⟩ = some (.slice Ao10 t706.length co10) := (blk_cell BK712.out 0).trans rfl; have hfz35_0 := blk_frozen BK712.out 0; have hcz36_0 : w32.cell? ⟨gb713, 0, none⟩ = some (.slice Ao13 t709.length co13) := (blk_cell BK713.out 0).trans rfl; have hfz36_0 := blk_frozen BK713.out 0) | ((with_reducible refine gate_callee (f := 30) rfl ?_); refine goesL_ (some 62) rfl rfl Try.func30 (by kernel_rfl) rfl #[.agg #[.slice Ao10 t706.length co10], .agg #[.slice Ao13 t709.length co13]] rfl (by (try simp only [List.map_toArray, List.map_cons, List.map_nil]); first | done | rfl | (simp only [List.length_drop, List.length_take]; rfl)) ?_; (with_reducible refine (impl_VecJoin.calls kj5 _ _ t706 _ _ t709 t724 t727 _ ?side1 ?side2 ?side3 ?side4 A25.out).mono ?_); (case side1 => repeat (first | exact (Kd.R_reads' HO_713000.out).2.2 | (with_reducible refine Kd.C_alloc ?_ _) | (with_reducible refine Kd.C_drewN ?_ _) | (with_reducible refine Kd.C_drew ?_))); (case side2 => exact (Kd.R_reads' HO_713000.out).2.1); (case side3 => repeat (first | exact (Kd.R_reads' HO_714000.out).2.2 | (with_reducible refine Kd.C_alloc ?_ _) | (with_reducible refine Kd.C_drewN ?_ _) | (with_reducible refine Kd.C_drew ?_))); (case side4 => exact (Kd.R_reads' HO_714000.out).2.1); rintro e w37 ⟨v725, rfl, ho0, hb⟩; refine ⟨_, rfl, ?_⟩; have n0_ := Aside0.mk (Kd.R_elder' (by (with_reducible repeat (first | apply Kd.R_alloc | apply Kd.R_drewN | apply Kd.R_drew)); exact HO_713000.out) (Kd.R_base ho0) hb); have n1_ := Aside0.mk (Kd.R_elder' (by (with_reducible repeat (first | apply Kd.R_alloc | apply Kd.R_drewN | apply Kd.R_drew)); exact HO_714000.out) (Kd.R_base ho0) hb); have n2_ := Aside0.mk (Kd.R_elder' (by (with_reducible repeat (first | apply Kd.R_alloc | apply Kd.R_drewN | apply Kd.R_drew)); exact HO722.out) (Kd.R_base ho0) hb); have n3_ := Aside0.mk (Kd.R_lower (Kd.R_new' (Kd.R_new' (Kd.R_new' ho0 (Kd.R_lt (by (with_reducible repeat (first | apply Kd.R_alloc | apply Kd.R_drewN | apply Kd.R_drew)); exact HO_713000.out))) (Kd.R_lt (by (with_reducible repeat (first | apply Kd.R_alloc | apply Kd.R_drewN | apply Kd.R_drew)); exact HO_714000.out))) (Kd.R_lt (by (with_reducible repeat (first | apply Kd.R_alloc | apply Kd.R_drewN | apply Kd.R_drew)); exact HO722.out))) (below_size (by repeat (first | (with_reducible first | exact HB.out | apply below_alloc | apply pw_below_drewN | apply below_drew1 | refine below_set ?_ GE712.out | refine below_set ?_ GE713.out) | exact HB.out)))); have n4_ := Aside0.mk (blk_below (g := gb712) (o := .cells #[.slice Ao10 t706.length co10] 52 (0, 0)) (by (with_reducible repeat (first | refine blk_drewN ?_ _ | refine blk_drew ?_ | refine blk_alloc ?_ _)); exact BK712.out) hb); have n5_ := Aside0.mk (blk_below (g := gb713) (o := .cells #[.slice Ao13 t709.length co13] 52 (0, 0)) (by (with_reducible repeat (first | refine blk_drewN ?_ _ | refine blk_drew ?_ | refine blk_alloc ?_ _)); exact BK713.out) hb); have n6_ := Aside0.mk (below_step (by repeat (first | (with_reducible first | exact HB.out | apply below_alloc | apply pw_below_drewN | apply below_drew1 | refine below_set ?_ GE712.out | refine below_set ?_ GE713.out) | exact HB.out)) hb); clear HO_713000; clear HO_714000; clear HO722; clear BK712; clear BK713; clear HB; have HO_713000 := n0_; have HO_714000 := n1_; have HO722 := n2_; have HO726 := n3_; have BK712 := n4_; have BK713 := n5_; have HB := n6_; clear n0_ n1_ n2_ n3_ n4_ n5_ n6_; (try clear hb); (try clear hb2); (try clear hk); (try clear hi); (try clear ho0)) | ((with_reducible refine gate_dst (N := 12) rfl ?_); (try (refine gate_guard (by rfl) ?_; dsimp only)); refine box_event ?hg (N := 12) ?hd (cs := #[.slice none 0 0]) (t := 52) ?hr ?_; (case hd => rfl); (case hg => rfl); (case hr => first | (go_simp; done) | (go_simp; rfl)); intro gb728 hg w38 hbox hb; have n0_ := Aside0.mk (Kd.R_below (by (with_reducible repeat (first | apply Kd.R_alloc | apply Kd.R_drewN | apply Kd.R_drew)); exact HO_713000.out) hb); have n1_ := Aside0.mk (Kd.R_below (by (with_reducible repeat (first | apply Kd.R_alloc | apply Kd.R_drewN | apply Kd.R_drew)); exact HO_714000.out) hb); have n2_ := Aside0.mk (Kd.R_below (by (with_reducible repeat (first | apply Kd.R_alloc | apply Kd.R_drewN | apply Kd.R_drew)); exact HO722.out) hb); have n3_ := Aside0.mk (Kd.R_below (by (with_reducible repeat (first | apply Kd.R_alloc | apply Kd.R_drewN | apply Kd.R_drew)); exact HO726.out) hb); have n4_ := Aside0.mk (blk_below (g := gb712) (o := .cells #[.slice Ao10 t706.length co10] 52 (0, 0)) (by (with_reducible repeat (first | refine blk_drewN ?_ _ | refine blk_drew ?_ | refine blk_alloc ?_ _)); exact BK712.out) hb); have n5_ := Aside0.mk (blk_below (g := gb713) (o := .cells #[.slice Ao13 t709.length co13] 52 (0, 0)) (by (with_reducible repeat (first | refine blk_drewN ?_ _ | refine blk_drew ?_ | refine blk_alloc ?_ _)); exact BK713.out) hb); have n6_ := Aside0.mk (below_step (by repeat (first | (with_reducible first | exact HB.out | apply below_alloc | apply pw_below_drewN | apply below_drew1 | refine below_set ?_ GE712.out | refine below_set ?_ GE713.out) | exact HB.out)) hb); have n7_ := Aside0.mk (hbox); have n8_ := Aside0.mk ((by rw [hg]; exact (below_size (by repeat (first | (with_reducible first | exact HB.out | apply below_alloc | apply pw_below_drewN | apply below_drew1 | refine below_set ?_ GE712.out | refine below_set ?_ GE713.out) | exact HB.out))) : w.heap.size ≤ gb728)); have n9_ := Aside0.mk ((by rw [hg]; exact (below_size (by repeat (first | (with_reducible first | exact HB.out | apply below_alloc | apply pw_below_drewN | apply below_drew1 | refine below_set ?_ GE712.out | refine below_set ?_ GE713.out) | exact HB.out))) : w.heap.size ≤ gb728)); have n10_ := Aside0.mk ((by rw [hg]; exact Nat.ne_of_lt (blk_lt (g := gb712) (o := .cells #[.slice Ao10 t706.length co10] 52 (0, 0)) (by (with_reducible repeat (first | refine blk_drewN ?_ _ | refine blk_drew ?_ | refine blk_alloc ?_ _)); exact BK712.out)) : gb712 ≠ gb728)); have n11_ := Aside0.mk ((by rw [hg]; exact Nat.ne_of_gt (blk_lt (g := gb712) (o := .cells #[.slice Ao10 t706.length co10] 52 (0, 0)) (by (with_reducible repeat (first | refine blk_drewN ?_ _ | refine blk_drew ?_ | refine blk_alloc ?_ _)); exact BK712.out)) : gb728 ≠ gb712)); have n12_ := Aside0.mk ((by rw [hg]; exact Nat.ne_of_lt (blk_lt (g := gb713) (o := .cells #[.slice Ao13 t709.length co13] 52 (0, 0)) (by (with_reducible repeat (first | refine blk_drewN ?_ _ | refine blk_drew ?_ | refine blk_alloc ?_ _)); exact BK713.out)) : gb713 ≠ gb728)); have n13_ := Aside0.mk ((by rw [hg]; exact Nat.ne_of_gt (blk_lt (g := gb713) (o := .cells #[.slice Ao13 t709.length co13] 52 (0, 0)) (by (with_reducible repeat (first | refine blk_drewN ?_ _ | refine blk_drew ?_ | refine blk_alloc ?_ _)); exact BK713.out)) : gb728 ≠ gb713)); clear HO_713000; clear HO_714000; clear HO722; clear HO726; clear BK712; clear BK713; clear HB; have HO_713000 := n0_; have HO_714000 := n1_; have HO722 := n2_; have HO726 := n3_; have BK712 := n4_; have BK713 := n5_; have HB := n6_; have BK728 := n7_; have GW728 := n8_; have GE728 := n9_; have NB712_728 := n10_; have NB728_712 := n11_; have NB713_728 := n12_; have NB728_713 := n13_; clear n0_ n1_ n2_ n3_ n4_ n5_ n6_ n7_ n8_ n9_ n10_ n11_ n12_ n13_; clear hb hbox hg; obtain ⟨Ao39, co39, eo39⟩ := Kd.R_slice HO726.out; subst eo39; have hnb40 := NB728_712.out; have hnc40 := NB712_728.out; have hnb41 := NB728_713.out; have hnc41 := NB713_728.out; have hcz42_0 : w38.cell? ⟨gb728, 0, none⟩ = some (.slice none 0 0) := (blk_cell BK728.out 0).trans rfl; have hfz42_0 := blk_frozen BK728.out 0; have hcz43_0 : w38.cell? ⟨gb712, 0, none⟩ = some (.slice Ao10 t706.length co10) := (blk_cell BK712.out 0).trans rfl; have hfz43_0 := blk_frozen BK712.out 0; have hcz44_0 : w38.cell? ⟨gb713, 0, none⟩ = some (.slice Ao13 t709.length co13) := (blk_cell BK713.out 0).trans rfl; have hfz44_0 := blk_frozen BK713.out 0) | ((with_reducible refine gate_callee (f := 31) rfl ?_); refine goesL_ (some 68) rfl rfl Try.func31 (by kernel_rfl) rfl #[.agg #[.slice Ao10 t706.length co10], .agg #[.slice Ao13 t709.length co13]] rfl (by (try simp only [List.map_toArray, List.map_cons, List.map_nil]); first | done | rfl | (simp only [List.length_drop, List.length_take]; rfl)) ?_; (with_reducible refine (impl_VecMeet.calls kj5 _ _ t706 _ _ t709 t729 t732 _ ?side1 ?side2 ?side3 ?side4 A26.out).mono ?_); (case side1 => refine (Kd.R_reads' (e := 3) (base := w.heap.size) (ok := fun k_ => ((some k_ ≠ (.slice Ao13 t709.length co13 : Value).ownBlock ∧ some k_ ≠ (.slice (some ad723) y720.length co34 : Value).ownBlock) ∧ some k_ ≠ (.slice Ao39 t724.length co39 : Value).ownBlock)) (n := t706.length) (c := co10) ?_).2.2; exact (by (with_reducible repeat (first | apply Kd.R_alloc | apply Kd.R_drewN | apply Kd.R_drew)); exact (Kd.R_mono (Kd.R_far (p := ⟨gb728, 0, none⟩) (Kd.R_types HO_713000.out BK728.out (by decide)) (fun _ hk => hk.2) (.slice Ao39 t724.length co39)) (fun _ h_ => h_.1)))); (case side2 => exact (Kd.R_reads' HO_713000.out).2.1); (case side3 => refine (Kd.R_reads' (e := 3) (base := w.heap.size) (ok := fun k_ => ((some k_ ≠ (.slice Ao10 t706.length co10 : Value).ownBlock ∧ some k_ ≠ (.slice (some ad723) y720.length co34 : Value).ownBlock) ∧ some k_ ≠ (.slice Ao39 t724.length co39 : Value).ownBlock)) (n := t709.length) (c := co13) ?_).2.2; exact (by (with_reducible repeat (first | apply Kd.R_alloc | apply Kd.R_drewN | apply Kd.R_drew)); exact (Kd.R_mono (Kd.R_far (p := ⟨gb728, 0, none⟩) (Kd.R_types HO_714000.out BK728.out (by decide)) (fun _ hk => hk.2) (.slice Ao39 t724.length co39)) (fun _ h_ => h_.1)))); (case side4 => exact (Kd.R_reads' HO_714000.out).2.1); rintro e w45 ⟨v730, rfl, ho0, hb⟩; refine ⟨_, rfl, ?_⟩; have n0_ := Aside0.mk (Kd.R_elder' (by (with_reducible repeat (first | apply Kd.R_alloc | apply Kd.R_drewN | apply Kd.R_drew)); exact (Kd.R_mono (Kd.R_far (p := ⟨gb728, 0, none⟩) (Kd.R_types HO_713000.out BK728.out (by decide)) (fun _ hk => hk.2) (.slice Ao39 t724.length co39)) (fun _ h_ => h_.1))) (Kd.R_base ho0) hb); have n1_ := Aside0.mk (Kd.R_elder' (by (with_reducible repeat (first | apply Kd.R_alloc | apply Kd.R_drewN | apply Kd.R_drew)); exact (Kd.R_mono (Kd.R_far (p := ⟨gb728, 0, none⟩) (Kd.R_types HO_714000.out BK728.out (by decide)) (fun _ hk => hk.2) (.slice Ao39 t724.length co39)) (fun _ h_ => h_.1))) (Kd.R_base ho0) hb); have n2_ := Aside0.mk (Kd.R_elder' (by (with_reducible repeat (first | apply Kd.R_alloc | apply Kd.R_drewN | apply Kd.R_drew)); exact (Kd.R_mono (Kd.R_far (p := ⟨gb728, 0, none⟩) (Kd.R_types HO722.out BK728.out (by decide)) (fun _ hk => hk.2) (.slice Ao39 t724.length co39)) (fun _ h_ => h_.1))) (Kd.R_base ho0) hb); have n3_ := Aside0.mk (Kd.R_elder' (by (with_reducible repeat (first | apply Kd.R_alloc | apply Kd.R_drewN | apply Kd.R_drew)); exact (Kd.R_mono (Kd.R_far (p := ⟨gb728, 0, none⟩) (Kd.R_types HO726.out BK728.out (by decide)) (fun _ hk => hk.2) (.slice Ao39 t724.length co39)) (fun _ h_ => h_.1))) (Kd.R_base ho0) hb); have n4_ := Aside0.mk (Kd.R_lower (Kd.R_new' (Kd.R_new' (Kd.R_new' (Kd.R_new' ho0 (Kd.R_lt (by (with_reducible repeat (first | apply Kd.R_alloc | apply Kd.R_drewN | apply Kd.R_drew)); exact (Kd.R_mono (Kd.R_far (p := ⟨gb728, 0, none⟩) (Kd.R_types HO_713000.out BK728.out (by decide)) (fun _ hk => hk.2) (.slice Ao39 t724.length co39)) (fun _ h_ => h_.1))))) (Kd.R_lt (by (with_reducible repeat (first | apply Kd.R_alloc | apply Kd.R_drewN | apply Kd.R_drew)); exact (Kd.R_mono (Kd.R_far (p := ⟨gb728, 0, none⟩) (Kd.R_types HO_714000.out BK728.out (by decide)) (fun _ hk => hk.2) (.slice Ao39 t724.length co39)) (fun _ h_ => h_.1))))) (Kd.R_lt (by (with_reducible repeat (first | apply Kd.R_alloc | apply Kd.R_drewN | apply Kd.R_drew)); exact (Kd.R_mono (Kd.R_far (p := ⟨gb728, 0, none⟩) (Kd.R_types HO722.out BK728.out (by decide)) (fun _ hk => hk.2) (.slice Ao39 t724.length co39)) (fun _ h_ => h_.1))))) (Kd.R_lt (by (with_reducible repeat (first | apply Kd.R_alloc | apply Kd.R_drewN | apply Kd.R_drew)); exact (Kd.R_mono (Kd.R_far (p := ⟨gb728, 0, none⟩) (Kd.R_types HO726.out BK728.out (by decide)) (fun _ hk => hk.2) (.slice Ao39 t724.length co39)) (fun _ h_ => h_.1))))) (below_size (by repeat (first | (with_reducible first | exact HB.out | apply below_alloc | apply pw_below_drewN | apply below_drew1 | refine below_set ?_ GE712.out | refine below_set ?_ GE713.out | refine below_set ?_ GE728.out) | exact HB.out)))); have n5_ := Aside0.mk (blk_below (g := gb712) (o := .cells #[.slice Ao10 t706.length co10] 52 (0, 0)) (by (with_reducible repeat (first | refine blk_drewN ?_ _ | refine blk_drew ?_ | refine blk_alloc ?_ _)); refine blk_far ?_ NB712_728.out _; (with_reducible repeat (first | refine blk_drewN ?_ _ | refine blk_drew ?_ | refine blk_alloc ?_ _)); exact BK712.out) hb); have n6_ := Aside0.mk (blk_below (g := gb713) (o := .cells #[.slice Ao13 t709.length co13] 52 (0, 0)) (by (with_reducible repeat (first | refine blk_drewN ?_ _ | refine blk_drew ?_ | refine blk_alloc ?_ _)); refine blk_far ?_ NB713_728.out _; (with_reducible repeat (first | refine blk_drewN ?_ _ | refine blk_drew ?_ | refine blk_alloc ?_ _)); exact BK713.out) hb); have n7_ := Aside0.mk (blk_below (g := gb728) (o := .cells #[.slice Ao39 t724.length co39] 52 (0, 0)) (by (with_reducible repeat (first | refine blk_drewN ?_ _ | refine blk_drew ?_ | refine blk_alloc ?_ _)); refine blk_put (cs := #[.slice none 0 0]) ?_ 0 _ rfl; (with_reducible repeat (first | refine blk_drewN ?_ _ | refine blk_drew ?_ | refine blk_alloc ?_ _)); exact BK728.out) hb); have n8_ := Aside0.mk (below_step (by repeat (first | (with_reducible first | exact HB.out | apply below_alloc | apply pw_below_drewN | apply below_drew1 | refine below_set ?_ GE712.out | refine below_set ?_ GE713.out | refine below_set ?_ GE728.out) | exact HB.out)) hb); clear HO_713000; clear HO_714000; clear HO722; clear HO726; clear BK712; clear BK713; clear BK728; clear HB; have HO_713000 := n0_; have HO_714000 := n1_; have HO722 := n2_; have HO726 := n3_; have HO731 := n4_; have BK712 := n5_; have BK713 := n6_; have BK728 := n7_; have HB := n8_; clear n0_ n1_ n2_ n3_ n4_ n5_ n6_ n7_ n8_; (try clear hb); (try clear hb2); (try clear hk); (try clear hi); (try clear ho0)) | ((with_reducible refine gate_dst (N := 14) rfl ?_); (try (refine gate_guard (by rfl) ?_; dsimp only)); refine box_event ?hg (N := 14) ?hd (cs := #[.slice none 0 0]) (t := 52) ?hr ?_; (case hd => rfl); (case hg => rfl); (case hr => first | (go_simp; done) | (go_simp; rfl)); intro gb733 hg w46 hbox hb; have n0_ := Aside0.mk (Kd.R_below (by (with_reducible repeat (first | apply Kd.R_alloc | apply Kd.R_drewN | apply Kd.R_drew)); exact HO_713000.out) hb); have n1_ := Aside0.mk (Kd.R_below (by (with_reducible repeat (first | apply Kd.R_alloc | apply Kd.R_drewN | apply Kd.R_drew)); exact HO_714000.out) hb); have n2_ := Aside0.mk (Kd.R_below (by (with_reducible repeat (first | apply Kd.R_alloc | apply Kd.R_drewN | apply Kd.R_drew)); exact HO722.out) hb); have n3_ := Aside0.mk (Kd.R_below (by (with_reducible repeat (first | apply Kd.R_alloc | apply Kd.R_drewN | apply Kd.R_drew)); exact HO726.out) hb); have n4_ := Aside0.mk (Kd.R_below (by (with_reducible repeat (first | apply Kd.R_alloc | apply Kd.R_drewN | apply Kd.R_drew)); exact HO731.out) hb); have n5_ := Aside0.mk (blk_below (g := gb712) (o := .cells #[.slice Ao10 t706.length co10] 52 (0, 0)) (by (with_reducible repeat (first | refine blk_drewN ?_ _ | refine blk_drew ?_ | refine blk_alloc ?_ _)); exact BK712.out) hb); have n6_ := Aside0.mk (blk_below (g := gb713) (o := .cells #[.slice Ao13 t709.length co13] 52 (0, 0)) (by (with_reducible repeat (first | refine blk_drewN ?_ _ | refine blk_drew ?_ | refine blk_alloc ?_ _)); exact BK713.out) hb); have n7_ := Aside0.mk (blk_below (g := gb728) (o := .cells #[.slice Ao39 t724.length co39] 52 (0, 0)) (by (with_reducible repeat (first | refine blk_drewN ?_ _ | refine blk_drew ?_ | refine blk_alloc ?_ _)); exact BK728.out) hb); have n8_ := Aside0.mk (below_step (by repeat (first | (with_reducible first | exact HB.out | apply below_alloc | apply pw_below_drewN | apply below_drew1 | refine below_set ?_ GE712.out | refine below_set ?_ GE713.out | refine below_set ?_ GE728.out) | exact HB.out)) hb); have n9_ := Aside0.mk (hbox); have n10_ := Aside0.mk ((by rw [hg]; exact (below_size (by repeat (first | (with_reducible first | exact HB.out | apply below_alloc | apply pw_below_drewN | apply below_drew1 | refine below_set ?_ GE712.out | refine below_set ?_ GE713.out | refine below_set ?_ GE728.out) | exact HB.out))) : w.heap.size ≤ gb733)); have n11_ := Aside0.mk ((by rw [hg]; exact (below_size (by repeat (first | (with_reducible first | exact HB.out | apply below_alloc | apply pw_below_drewN | apply below_drew1 | refine below_set ?_ GE712.out | refine below_set ?_ GE713.out | refine below_set ?_ GE728.out) | exact HB.out))) : w.heap.size ≤ gb733)); have n12_ := Aside0.mk ((by rw [hg]; exact Nat.ne_of_lt (blk_lt (g := gb712) (o := .cells #[.slice Ao10 t706.length co10] 52 (0, 0)) (by (with_reducible repeat (first | refine blk_drewN ?_ _ | refine blk_drew ?_ | refine blk_alloc ?_ _)); exact BK712.out)) : gb712 ≠ gb733)); have n13_ := Aside0.mk ((by rw [hg]; exact Nat.ne_of_gt (blk_lt (g := gb712) (o := .cells #[.slice Ao10 t706.length co10] 52 (0, 0)) (by (with_reducible repeat (first | refine blk_drewN ?_ _ | refine blk_drew ?_ | refine blk_alloc ?_ _)); exact BK712.out)) : gb733 ≠ gb712)); have n14_ := Aside0.mk ((by rw [hg]; exact Nat.ne_of_lt (blk_lt (g := gb713) (o := .cells #[.slice Ao13 t709.length co13] 52 (0, 0)) (by (with_reducible repeat (first | refine blk_drewN ?_ _ | refine blk_drew ?_ | refine blk_alloc ?_ _)); exact BK713.out)) : gb713 ≠ gb733)); have n15_ := Aside0.mk ((by rw [hg]; exact Nat.ne_of_gt (blk_lt (g := gb713) (o := .cells #[.slice Ao13 t709.length co13] 52 (0, 0)) (by (with_reducible repeat (first | refine blk_drewN ?_ _ | refine blk_drew ?_ | refine blk_alloc ?_ _)); exact BK713.out)) : gb733 ≠ gb713)); have n16_ := Aside0.mk ((by rw [hg]; exact Nat.ne_of_lt (blk_lt (g := gb728) (o := .cells #[.slice Ao39 t724.length co39] 52 (0, 0)) (by (with_reducible repeat (first | refine blk_drewN ?_ _ | refine blk_drew ?_ | refine blk_alloc ?_ _)); exact BK728.out)) : gb728 ≠ gb733)); have n17_ := Aside0.mk ((by rw [hg]; exact Nat.ne_of_gt (blk_lt (g := gb728) (o := .cells #[.slice Ao39 t724.length co39] 52 (0, 0)) (by (with_reducible repeat (first | refine blk_drewN ?_ _ | refine blk_drew ?_ | refine blk_alloc ?_ _)); exact BK728.out)) : gb733 ≠ gb728)); clear HO_713000; clear HO_714000; clear HO722; clear HO726; clear HO731; clear BK712; clear BK713; clear BK728; clear HB; have HO_713000 := n0_; have HO_714000 := n1_; have HO722 := n2_; have HO726 := n3_; have HO731 := n4_; have BK712 := n5_; have BK713 := n6_; have BK728 := n7_; have HB := n8_; have BK733 := n9_; have GW733 := n10_; have GE733 := n11_; have NB712_733 := n12_; have NB733_712 := n13_; have NB713_733 := n14_; have NB733_713 := n15_; have NB728_733 := n16_; have NB733_728 := n17_; clear n0_ n1_ n2_ n3_ n4_ n5_ n6_ n7_ n8_ n9_ n10_ n11_ n12_ n13_ n14_ n15_ n16_ n17_; clear hb hbox hg; obtain ⟨Ao47, co47, eo47⟩ := Kd.R_slice HO731.out; subst eo47; have hnb48 := NB733_712.out; have hnc48 := NB712_733.out; have hnb49 := NB733_713.out; have hnc49 := NB713_733.out; have hnb50 := NB733_728.out; have hnc50 := NB728_733.out; have hcz51_0 : w46.cell? ⟨gb733, 0, none⟩ = some (.slice none 0 0) := (blk_cell BK733.out 0).trans rfl; have hfz51_0 := blk_frozen BK733.out 0))
                (try simp only [Act.put, List.setIfInBounds_toArray, List.set_cons_zero, List.set_cons_succ])
                go_cut [85] (fun v85 wc => ∃ (kq : Nat) (x85_26 : Bool), v85 = .bool x85_26 ∧ Aside0 (laws_FnVectors.j1 kq x85_26 t706 t709 t724 t729 = some r) ∧ Aside0 (kq ≤ kj5) ∧ Aside0 (Kd.R (Kd.int .i64) 3 wc w.heap.size (fun k_ => some k_ ≠ ((.slice Ao13 t709.length co13) : Value).ownBlock ∧ some k_ ≠ ((.slice Ao39 t724.length co39) : Value).ownBlock ∧ some k_ ≠ ((.slice Ao47 t729.length co47) : Value).ownBlock) (.slice Ao10 t706.length co10) t706) ∧ Aside0 (Kd.R (Kd.int .i64) 3 wc w.heap.size (fun k_ => some k_ ≠ ((.slice Ao10 t706.length co10) : Value).ownBlock ∧ some k_ ≠ ((.slice Ao39 t724.length co39) : Value).ownBlock ∧ some k_ ≠ ((.slice Ao47 t729.length co47) : Value).ownBlock) (.slice Ao13 t709.length co13) t709) ∧ Aside0 (Kd.R (Kd.int .i64) 3 wc w.heap.size (fun k_ => some k_ ≠ ((.slice Ao10 t706.length co10) : Value).ownBlock ∧ some k_ ≠ ((.slice Ao13 t709.length co13) : Value).ownBlock ∧ some k_ ≠ ((.slice Ao47 t729.length co47) : Value).ownBlock) (.slice Ao39 t724.length co39) t724) ∧ Aside0 (Kd.R (Kd.int .i64) 3 wc w.heap.size (fun k_ => some k_ ≠ ((.slice Ao10 t706.length co10) : Value).ownBlock ∧ some k_ ≠ ((.slice Ao13 t709.length co13) : Value).ownBlock ∧ some k_ ≠ ((.slice Ao39 t724.length co39) : Value).ownBlock) (.slice Ao47 t729.length co47) t729) ∧ Aside0 (wc.heap[gb712]? = some (.cells #[(.slice Ao10 t706.length co10)] 52 (0, 0))) ∧ Aside0 (wc.heap[gb713]? = some (.cells #[(.slice Ao13 t709.length co13)] 52 (0, 0))) ∧ Aside0 (wc.heap[gb728]? = some (.cells #[(.slice Ao39 t724.length co39)] 52 (0, 0))) ∧ Aside0 (wc.heap[gb733]? = some (.cells #[(.slice Ao47 t729.length co47)] 52 (0, 0))) ∧ Aside0 (Below w.heap.size w wc))
                case first =>
                  have H := HC27.out
                  clear HC27
                  by_cases c52 : t719 = 0
                  · rw [if_pos c52] at H
                    have c52b0 : (t719 == 0) = true := beq_iff_eq.mpr c52
                    have c52b1 : (t719 != 0) = false := bne_eq_false_iff_eq.mpr c52
                    clear c52
                    (first | rw [c52b0] | (simp only [i64_w, i32_w]; rw [c52b0]) | skip)
                    by_cases c53 : t727 = 0
                    · rw [if_pos c53] at H
                      have c53b0 : (t727 == 0) = true := beq_iff_eq.mpr c53
                      have c53b1 : (t727 != 0) = false := bne_eq_false_iff_eq.mpr c53
                      clear c53
                      by_cases c54 : t732 = 0
                      · rw [if_pos c54] at H
                        have c54b0 : (t732 == 0) = true := beq_iff_eq.mpr c54
                        have c54b1 : (t732 != 0) = false := bne_eq_false_iff_eq.mpr c54
                        clear c54
                        have H' := Aside0.mk H
                        clear H
                        go_wp2
                        go_meet
                        case rel => exact ⟨_, ((t718 != (rd y720 t714))), (by first | rfl | (simp; done) | (simp [*]; done)), H', ⟨by have := HJ5.out; first | omega | exact Nat.le_refl _⟩, ⟨by (with_reducible repeat (first | apply Kd.R_alloc | apply Kd.R_drewN | apply Kd.R_drew)); exact Kd.R_mono (Kd.R_far (p := ⟨gb733, 0, none⟩) (Kd.R_types HO_713000.out BK733.out (by decide)) (fun _ hk => hk.2) (.slice Ao47 t729.length co47)) (fun _ hk => ⟨hk.1.1.1.1, ⟨hk.1.1.2, hk.1.2⟩⟩)⟩, ⟨by (with_reducible repeat (first | apply Kd.R_alloc | apply Kd.R_drewN | apply Kd.R_drew)); exact Kd.R_mono (Kd.R_far (p := ⟨gb733, 0, none⟩) (Kd.R_types HO_714000.out BK733.out (by decide)) (fun _ hk => hk.2) (.slice Ao47 t729.length co47)) (fun _ hk => ⟨hk.1.1.1.1, ⟨hk.1.1.2, hk.1.2⟩⟩)⟩, ⟨by (with_reducible repeat (first | apply Kd.R_alloc | apply Kd.R_drewN | apply Kd.R_drew)); exact Kd.R_mono (Kd.R_far (p := ⟨gb733, 0, none⟩) (Kd.R_types HO726.out BK733.out (by decide)) (fun _ hk => hk.2) (.slice Ao47 t729.length co47)) (fun _ hk => ⟨hk.1.1.1.1.2, ⟨hk.1.1.1.2, hk.1.2⟩⟩)⟩, ⟨by (with_reducible repeat (first | apply Kd.R_alloc | apply Kd.R_drewN | apply Kd.R_drew)); exact Kd.R_mono (Kd.R_far (p := ⟨gb733, 0, none⟩) (Kd.R_types HO731.out BK733.out (by decide)) (fun _ hk => hk.2) (.slice Ao47 t729.length co47)) (fun _ hk => ⟨hk.1.1.1.1.2, ⟨hk.1.1.1.2, hk.1.2⟩⟩)⟩, ⟨by (with_reducible repeat (first | refine blk_drewN ?_ _ | refine blk_drew ?_ | refine blk_alloc ?_ _)); refine blk_far ?_ NB712_733.out _; (with_reducible repeat (first | refine blk_drewN ?_ _ | refine blk_drew ?_ | refine blk_alloc ?_ _)); exact BK712.out⟩, ⟨by (with_reducible repeat (first | refine blk_drewN ?_ _ | refine blk_drew ?_ | refine blk_alloc ?_ _)); refine blk_far ?_ NB713_733.out _; (with_reducible repeat (first | refine blk_drewN ?_ _ | refine blk_drew ?_ | refine blk_alloc ?_ _)); exact BK713.out⟩, ⟨by (with_reducible repeat (first | refine blk_drewN ?_ _ | refine blk_drew ?_ | refine blk_alloc ?_ _)); refine blk_far ?_ NB728_733.out _; (with_reducible repeat (first | refine blk_drewN ?_ _ | refine blk_drew ?_ | refine blk_alloc ?_ _)); exact BK728.out⟩, ⟨by (with_reducible repeat (first | refine blk_drewN ?_ _ | refine blk_drew ?_ | refine blk_alloc ?_ _)); refine blk_put (cs := #[.slice none 0 0]) ?_ 0 _ rfl; (with_reducible repeat (first | refine blk_drewN ?_ _ | refine blk_drew ?_ | refine blk_alloc ?_ _)); exact BK733.out⟩, ⟨by repeat (first | (with_reducible first | exact HB.out | apply below_alloc | apply pw_below_drewN | apply below_drew1 | refine below_set ?_ GE712.out | refine below_set ?_ GE713.out | refine below_set ?_ GE728.out | refine below_set ?_ GE733.out) | exact HB.out)⟩⟩
                      · rw [if_neg c54] at H
                        have c54b0 : (t732 == 0) = false := beq_eq_false_iff_ne.mpr c54
                        have c54b1 : (t732 != 0) = true := bne_iff_ne.mpr c54
                        have H' := Aside0.mk H
                        clear H
                        go_wp2
                        go_meet
                        case rel => exact ⟨_, (true), (by first | rfl | (simp; done) | (simp [*]; done)), H', ⟨by have := HJ5.out; first | omega | exact Nat.le_refl _⟩, ⟨by (with_reducible repeat (first | apply Kd.R_alloc | apply Kd.R_drewN | apply Kd.R_drew)); exact Kd.R_mono (Kd.R_far (p := ⟨gb733, 0, none⟩) (Kd.R_types HO_713000.out BK733.out (by decide)) (fun _ hk => hk.2) (.slice Ao47 t729.length co47)) (fun _ hk => ⟨hk.1.1.1.1, ⟨hk.1.1.2, hk.1.2⟩⟩)⟩, ⟨by (with_reducible repeat (first | apply Kd.R_alloc | apply Kd.R_drewN | apply Kd.R_drew)); exact Kd.R_mono (Kd.R_far (p := ⟨gb733, 0, none⟩) (Kd.R_types HO_714000.out BK733.out (by decide)) (fun _ hk => hk.2) (.slice Ao47 t729.length co47)) (fun _ hk => ⟨hk.1.1.1.1, ⟨hk.1.1.2, hk.1.2⟩⟩)⟩, ⟨by (with_reducible repeat (first | apply Kd.R_alloc | apply Kd.R_drewN | apply Kd.R_drew)); exact Kd.R_mono (Kd.R_far (p := ⟨gb733, 0, none⟩) (Kd.R_types HO726.out BK733.out (by decide)) (fun _ hk => hk.2) (.slice Ao47 t729.length co47)) (fun _ hk => ⟨hk.1.1.1.1.2, ⟨hk.1.1.1.2, hk.1.2⟩⟩)⟩, ⟨by (with_reducible repeat (first | apply Kd.R_alloc | apply Kd.R_drewN | apply Kd.R_drew)); exact Kd.R_mono (Kd.R_far (p := ⟨gb733, 0, none⟩) (Kd.R_types HO731.out BK733.out (by decide)) (fun _ hk => hk.2) (.slice Ao47 t729.length co47)) (fun _ hk => ⟨hk.1.1.1.1.2, ⟨hk.1.1.1.2, hk.1.2⟩⟩)⟩, ⟨by (with_reducible repeat (first | refine blk_drewN ?_ _ | refine blk_drew ?_ | refine blk_alloc ?_ _)); refine blk_far ?_ NB712_733.out _; (with_reducible repeat (first | refine blk_drewN ?_ _ | refine blk_drew ?_ | refine blk_alloc ?_ _)); exact BK712.out⟩, ⟨by (with_reducible repeat (first | refine blk_drewN ?_ _ | refine blk_drew ?_ | refine blk_alloc ?_ _)); refine blk_far ?_ NB713_733.out _; (with_reducible repeat (first | refine blk_drewN ?_ _ | refine blk_drew ?_ | refine blk_alloc ?_ _)); exact BK713.out⟩, ⟨by (with_reducible repeat (first | refine blk_drewN ?_ _ | refine blk_drew ?_ | refine blk_alloc ?_ _)); refine blk_far ?_ NB728_733.out _; (with_reducible repeat (first | refine blk_drewN ?_ _ | refine blk_drew ?_ | refine blk_alloc ?_ _)); exact BK728.out⟩, ⟨by (with_reducible repeat (first | refine blk_drewN ?_ _ | refine blk_drew ?_ | refine blk_alloc ?_ _)); refine blk_put (cs := #[.slice none 0 0]) ?_ 0 _ rfl; (with_reducible repeat (first | refine blk_drewN ?_ _ | refine blk_drew ?_ | refine blk_alloc ?_ _)); exact BK733.out⟩, ⟨by repeat (first | (with_reducible first | exact HB.out | apply below_alloc | apply pw_below_drewN | apply below_drew1 | refine below_set ?_ GE712.out | refine below_set ?_ GE713.out | refine below_set ?_ GE728.out | refine below_set ?_ GE733.out) | exact HB.out)⟩⟩
                    · rw [if_neg c53] at H
                      have c53b0 : (t727 == 0) = false := beq_eq_false_iff_ne.mpr c53
                      have c53b1 : (t727 != 0) = true := bne_iff_ne.mpr c53
                      have H' := Aside0.mk H
                      clear H
                      go_wp2
                      go_meet
                      case rel => exact ⟨_, (true), (by first | rfl | (simp; done) | (simp [*]; done)), H', ⟨by have := HJ5.out; first | omega | exact Nat.le_refl _⟩, ⟨by (with_reducible repeat (first | apply Kd.R_alloc | apply Kd.R_drewN | apply Kd.R_drew)); exact Kd.R_mono (Kd.R_far (p := ⟨gb733, 0, none⟩) (Kd.R_types HO_713000.out BK733.out (by decide)) (fun _ hk => hk.2) (.slice Ao47 t729.length co47)) (fun _ hk => ⟨hk.1.1.1.1, ⟨hk.1.1.2, hk.1.2⟩⟩)⟩, ⟨by (with_reducible repeat (first | apply Kd.R_alloc | apply Kd.R_drewN | apply Kd.R_drew)); exact Kd.R_mono (Kd.R_far (p := ⟨gb733, 0, none⟩) (Kd.R_types HO_714000.out BK733.out (by decide)) (fun _ hk => hk.2) (.slice Ao47 t729.length co47)) (fun _ hk => ⟨hk.1.1.1.1, ⟨hk.1.1.2, hk.1.2⟩⟩)⟩, ⟨by (with_reducible repeat (first | apply Kd.R_alloc | apply Kd.R_drewN | apply Kd.R_drew)); exact Kd.R_mono (Kd.R_far (p := ⟨gb733, 0, none⟩) (Kd.R_types HO726.out BK733.out (by decide)) (fun _ hk => hk.2) (.slice Ao47 t729.length co47)) (fun _ hk => ⟨hk.1.1.1.1.2, ⟨hk.1.1.1.2, hk.1.2⟩⟩)⟩, ⟨by (with_reducible repeat (first | apply Kd.R_alloc | apply Kd.R_drewN | apply Kd.R_drew)); exact Kd.R_mono (Kd.R_far (p := ⟨gb733, 0, none⟩) (Kd.R_types HO731.out BK733.out (by decide)) (fun _ hk => hk.2) (.slice Ao47 t729.length co47)) (fun _ hk => ⟨hk.1.1.1.1.2, ⟨hk.1.1.1.2, hk.1.2⟩⟩)⟩, ⟨by (with_reducible repeat (first | refine blk_drewN ?_ _ | refine blk_drew ?_ | refine blk_alloc ?_ _)); refine blk_far ?_ NB712_733.out _; (with_reducible repeat (first | refine blk_drewN ?_ _ | refine blk_drew ?_ | refine blk_alloc ?_ _)); exact BK712.out⟩, ⟨by (with_reducible repeat (first | refine blk_drewN ?_ _ | refine blk_drew ?_ | refine blk_alloc ?_ _)); refine blk_far ?_ NB713_733.out _; (with_reducible repeat (first | refine blk_drewN ?_ _ | refine blk_drew ?_ | refine blk_alloc ?_ _)); exact BK713.out⟩, ⟨by (with_reducible repeat (first | refine blk_drewN ?_ _ | refine blk_drew ?_ | refine blk_alloc ?_ _)); refine blk_far ?_ NB728_733.out _; (with_reducible repeat (first | refine blk_drewN ?_ _ | refine blk_drew ?_ | refine blk_alloc ?_ _)); exact BK728.out⟩, ⟨by (with_reducible repeat (first | refine blk_drewN ?_ _ | refine blk_drew ?_ | refine blk_alloc ?_ _)); refine blk_put (cs := #[.slice none 0 0]) ?_ 0 _ rfl; (with_reducible repeat (first | refine blk_drewN ?_ _ | refine blk_drew ?_ | refine blk_alloc ?_ _)); exact BK733.out⟩, ⟨by repeat (first | (with_reducible first | exact HB.out | apply below_alloc | apply pw_below_drewN | apply below_drew1 | refine below_set ?_ GE712.out | refine below_set ?_ GE713.out | refine below_set ?_ GE728.out | refine below_set ?_ GE733.out) | exact HB.out)⟩⟩
                  · rw [if_neg c52] at H
                    have c52b0 : (t719 == 0) = false := beq_eq_false_iff_ne.mpr c52
                    have c52b1 : (t719 != 0) = true := bne_iff_ne.mpr c52
                    (first | rw [c52b0] | (simp only [i64_w, i32_w]; rw [c52b0]) | skip)
                    have H' := Aside0.mk H
                    clear H
                    go_wp2
                    go_meet
                    case rel => exact ⟨_, (true), (by first | rfl | (simp; done) | (simp [*]; done)), H', ⟨by have := HJ5.out; first | omega | exact Nat.le_refl _⟩, ⟨by (with_reducible repeat (first | apply Kd.R_alloc | apply Kd.R_drewN | apply Kd.R_drew)); exact Kd.R_mono (Kd.R_far (p := ⟨gb733, 0, none⟩) (Kd.R_types HO_713000.out BK733.out (by decide)) (fun _ hk => hk.2) (.slice Ao47 t729.length co47)) (fun _ hk => ⟨hk.1.1.1.1, ⟨hk.1.1.2, hk.1.2⟩⟩)⟩, ⟨by (with_reducible repeat (first | apply Kd.R_alloc | apply Kd.R_drewN | apply Kd.R_drew)); exact Kd.R_mono (Kd.R_far (p := ⟨gb733, 0, none⟩) (Kd.R_types HO_714000.out BK733.out (by decide)) (fun _ hk => hk.2) (.slice Ao47 t729.length co47)) (fun _ hk => ⟨hk.1.1.1.1, ⟨hk.1.1.2, hk.1.2⟩⟩)⟩, ⟨by (with_reducible repeat (first | apply Kd.R_alloc | apply Kd.R_drewN | apply Kd.R_drew)); exact Kd.R_mono (Kd.R_far (p := ⟨gb733, 0, none⟩) (Kd.R_types HO726.out BK733.out (by decide)) (fun _ hk => hk.2) (.slice Ao47 t729.length co47)) (fun _ hk => ⟨hk.1.1.1.1.2, ⟨hk.1.1.1.2, hk.1.2⟩⟩)⟩, ⟨by (with_reducible repeat (first | apply Kd.R_alloc | apply Kd.R_drewN | apply Kd.R_drew)); exact Kd.R_mono (Kd.R_far (p := ⟨gb733, 0, none⟩) (Kd.R_types HO731.out BK733.out (by decide)) (fun _ hk => hk.2) (.slice Ao47 t729.length co47)) (fun _ hk => ⟨hk.1.1.1.1.2, ⟨hk.1.1.1.2, hk.1.2⟩⟩)⟩, ⟨by (with_reducible repeat (first | refine blk_drewN ?_ _ | refine blk_drew ?_ | refine blk_alloc ?_ _)); refine blk_far ?_ NB712_733.out _; (with_reducible repeat (first | refine blk_drewN ?_ _ | refine blk_drew ?_ | refine blk_alloc ?_ _)); exact BK712.out⟩, ⟨by (with_reducible repeat (first | refine blk_drewN ?_ _ | refine blk_drew ?_ | refine blk_alloc ?_ _)); refine blk_far ?_ NB713_733.out _; (with_reducible repeat (first | refine blk_drewN ?_ _ | refine blk_drew ?_ | refine blk_alloc ?_ _)); exact BK713.out⟩, ⟨by (with_reducible repeat (first | refine blk_drewN ?_ _ | refine blk_drew ?_ | refine blk_alloc ?_ _)); refine blk_far ?_ NB728_733.out _; (with_reducible repeat (first | refine blk_drewN ?_ _ | refine blk_drew ?_ | refine blk_alloc ?_ _)); exact BK728.out⟩, ⟨by (with_reducible repeat (first | refine blk_drewN ?_ _ | refine blk_drew ?_ | refine blk_alloc ?_ _)); refine blk_put (cs := #[.slice none 0 0]) ?_ 0 _ rfl; (with_reducible repeat (first | refine blk_drewN ?_ _ | refine blk_drew ?_ | refine blk_alloc ?_ _)); exact BK733.out⟩, ⟨by repeat (first | (with_reducible first | exact HB.out | apply below_alloc | apply pw_below_drewN | apply below_drew1 | refine below_set ?_ GE712.out | refine below_set ?_ GE713.out | refine below_set ?_ GE728.out | refine below_set ?_ GE733.out) | exact HB.out)⟩⟩
                case rest =>
                  clear HC27
                  try clear c1
                  try clear c2
                  try clear c2b0
                  try clear c2b1
                  try clear p2
                  try clear c3
                  try clear c4
                  try clear c5
                  try clear c7
                  try clear p7
                  try clear q7
                  try clear hx7
                  try clear c11
                  try clear c19
                  try clear c19b0
                  try clear c19b1
                  try clear c20
                  try clear c21
                  try clear c21b0
                  try clear c21b1
                  try clear c23
                  try clear c23b0
                  try clear c24
                  try clear c24b0
                  try clear c27
                  try clear c28
                  try clear c29
                  try clear c30
                  try clear c31
                  try clear c40
                  try clear c41
                  try clear c48
                  try clear c49
                  try clear c50
                  try clear c52
                  try clear c52b0
                  try clear c52b1
                  try clear c53
                  try clear c53b0
                  try clear c53b1
                  try clear c54
                  try clear c54b0
                  try clear c54b1
                  try clear hcz12_0
                  try clear hcz14_0
                  try clear hcz16_0
                  try clear hcz17_0
                  try clear hcz29_0
                  try clear hcz30_0
                  try clear hcz35_0
                  try clear hcz36_0
                  try clear hcz42_0
                  try clear hcz43_0
                  try clear hcz44_0
                  try clear hcz51_0
                  try clear hfz12_0
                  try clear hfz14_0
                  try clear hfz16_0
                  try clear hfz17_0
                  try clear hfz29_0
                  try clear hfz30_0
                  try clear hfz35_0
                  try clear hfz36_0
                  try clear hfz42_0
                  try clear hfz43_0
                  try clear hfz44_0
                  try clear hfz51_0
                  try clear hx723_0
                  try clear p2
                  try clear p723
                  try clear q723
                  obtain ⟨kq, x85_26, rfl, HA, HJ26, HO_713000, HO_714000, HO_729000, HO_734000, BK712, BK713, BK728, BK733, HB⟩ := hcut
                  cases kq with
                  | zero => exact absurd HA.out (by simp [laws_FnVectors.j1])
                  | succ kj26 =>
                    have H := HA.out
                    clear HA
                    simp only [laws_FnVectors.j1] at H
                    by_cases c55 : x85_26 = true
                    · subst c55
                      have H1 : (some false) = some r := by rw [if_pos rfl] at H; exact H
                      clear H
                      have H := H1
                      clear H1
                      obtain rfl := Option.some.inj H
                      go_wp2
                      go_ret
                      exact ⟨by first | rfl | (simp [errW_none, errW_some] <;> rfl) | (simp [*, errW_none, errW_some] <;> rfl), by repeat (first | (with_reducible first | exact HB.out | apply below_alloc | apply pw_below_drewN | apply below_drew1 | refine below_set ?_ GE712.out | refine below_set ?_ GE713.out | refine below_set ?_ GE728.out | refine below_set ?_ GE733.out) | exact HB.out)⟩
                    · replace c55 := Bool.eq_false_iff.mpr c55
                      subst c55
                      have H1 : (laws_FnVectors.l0 kj26 0 t706 t709 t724 t729) = some r := by rw [if_neg (show ¬ (false = true) by decide)] at H; exact H
                      clear H
                      have H := H1
                      clear H1
                      have H' := Aside0.mk H
                      clear H
                      go_wp2
                      go_loopg [16] kj26 (fun kq v16 w' => ∃ (x16_3 : Int), v16 = .int .i64 x16_3 ∧ Aside0 (laws_FnVectors.l0 kq x16_3 t706 t709 t724 t729 = some r) ∧ Aside0 (kq ≤ kj26) ∧ Aside0 (Kd.R (Kd.int .i64) 3 w' w.heap.size (fun k_ => some k_ ≠ ((.slice Ao13 t709.length co13) : Value).ownBlock ∧ some k_ ≠ ((.slice Ao39 t724.length co39) : Value).ownBlock ∧ some k_ ≠ ((.slice Ao47 t729.length co47) : Value).ownBlock) (.slice Ao10 t706.length co10) t706) ∧ Aside0 (Kd.R (Kd.int .i64) 3 w' w.heap.size (fun k_ => some k_ ≠ ((.slice Ao10 t706.length co10) : Value).ownBlock ∧ some k_ ≠ ((.slice Ao39 t724.length co39) : Value).ownBlock ∧ some k_ ≠ ((.slice Ao47 t729.length co47) : Value).ownBlock) (.slice Ao13 t709.length co13) t709) ∧ Aside0 (Kd.R (Kd.int .i64) 3 w' w.heap.size (fun k_ => some k_ ≠ ((.slice Ao10 t706.length co10) : Value).ownBlock ∧ some k_ ≠ ((.slice Ao13 t709.length co13) : Value).ownBlock ∧ some k_ ≠ ((.slice Ao47 t729.length co47) : Value).ownBlock) (.slice Ao39 t724.length co39) t724) ∧ Aside0 (Kd.R (Kd.int .i64) 3 w' w.heap.size (fun k_ => some k_ ≠ ((.slice Ao10 t706.length co10) : Value).ownBlock ∧ some k_ ≠ ((.slice Ao13 t709.length co13) : Value).ownBlock ∧ some k_ ≠ ((.slice Ao39 t724.length co39) : Value).ownBlock) (.slice Ao47 t729.length co47) t729) ∧ Aside0 (w'.heap[gb712]? = some (.cells #[(.slice Ao10 t706.length co10)] 52 (0, 0))) ∧ Aside0 (w'.heap[gb713]? = some (.cells #[(.slice Ao13 t709.length co13)] 52 (0, 0))) ∧ Aside0 (w'.heap[gb728]? = some (.cells #[(.slice Ao39 t724.length co39)] 52 (0, 0))) ∧ Aside0 (w'.heap[gb733]? = some (.cells #[(.slice Ao47 t729.length co47)] 52 (0, 0))) ∧ Aside0 (Below w.heap.size w w'))
                      case atStart => exact ⟨(0), (by first | rfl | (simp; done) | (simp [*]; done)), H', ⟨Nat.le_refl _⟩, ⟨by (with_reducible repeat (first | apply Kd.R_alloc | apply Kd.R_drewN | apply Kd.R_drew)); exact HO_713000.out⟩, ⟨by (with_reducible repeat (first | apply Kd.R_alloc | apply Kd.R_drewN | apply Kd.R_drew)); exact HO_714000.out⟩, ⟨by (with_reducible repeat (first | apply Kd.R_alloc | apply Kd.R_drewN | apply Kd.R_drew)); exact HO_729000.out⟩, ⟨by (with_reducible repeat (first | apply Kd.R_alloc | apply Kd.R_drewN | apply Kd.R_drew)); exact HO_734000.out⟩, ⟨by (with_reducible repeat (first | refine blk_drewN ?_ _ | refine blk_drew ?_ | refine blk_alloc ?_ _)); exact BK712.out⟩, ⟨by (with_reducible repeat (first | refine blk_drewN ?_ _ | refine blk_drew ?_ | refine blk_alloc ?_ _)); exact BK713.out⟩, ⟨by (with_reducible repeat (first | refine blk_drewN ?_ _ | refine blk_drew ?_ | refine blk_alloc ?_ _)); exact BK728.out⟩, ⟨by (with_reducible repeat (first | refine blk_drewN ?_ _ | refine blk_drew ?_ | refine blk_alloc ?_ _)); exact BK733.out⟩, ⟨by repeat (first | (with_reducible first | exact HB.out | apply below_alloc | apply pw_below_drewN | apply below_drew1 | refine below_set ?_ GE712.out | refine below_set ?_ GE713.out | refine below_set ?_ GE728.out | refine below_set ?_ GE733.out) | exact HB.out)⟩⟩
                      case round =>
                        clear H'
                        try clear c1
                        try clear c2
                        try clear c2b0
                        try clear c2b1
                        try clear p2
                        try clear c3
                        try clear c4
                        try clear c5
                        try clear c7
                        try clear p7
                        try clear q7
                        try clear hx7
                        try clear c11
                        try clear c19
                        try clear c19b0
                        try clear c19b1
                        try clear c20
                        try clear c21
                        try clear c21b0
                        try clear c21b1
                        try clear c23
                        try clear c23b0
                        try clear c24
                        try clear c24b0
                        try clear c27
                        try clear c28
                        try clear c29
                        try clear c30
                        try clear c31
                        try clear c40
                        try clear c41
                        try clear c48
                        try clear c49
                        try clear c50
                        try clear c52
                        try clear c52b0
                        try clear c52b1
                        try clear c53
                        try clear c53b0
                        try clear c53b1
                        try clear c54
                        try clear c54b0
                        try clear c54b1
                        try clear c55
                        try clear hcz12_0
                        try clear hcz14_0
                        try clear hcz16_0
                        try clear hcz17_0
                        try clear hcz29_0
                        try clear hcz30_0
                        try clear hcz35_0
                        try clear hcz36_0
                        try clear hcz42_0
                        try clear hcz43_0
                        try clear hcz44_0
                        try clear hcz51_0
                        try clear hfz12_0
                        try clear hfz14_0
                        try clear hfz16_0
                        try clear hfz17_0
                        try clear hfz29_0
                        try clear hfz30_0
                        try clear hfz35_0
                        try clear hfz36_0
                        try clear hfz42_0
                        try clear hfz43_0
                        try clear hfz44_0
                        try clear hfz51_0
                        try clear hx723_0
                        try clear p2
                        try clear p7
                        try clear p723
                        try clear q7
                        try clear q723
                        obtain ⟨x16_3, rfl, HA, HK3, HO_713000, HO_714000, HO_729000, HO_734000, BK712, BK713, BK728, BK733, HB⟩ := hrel
                        cases gk with
                        | zero => exact absurd HA.out (by simp [laws_FnVectors.l0])
                        | succ k3 =>
                          have H := HA.out
                          clear HA
                          simp only [laws_FnVectors.l0] at H
                          by_cases c56 : x16_3 < 16
                          · rw [if_pos c56] at H
                            have c56b0 : decide (x16_3 < 16) = true := decide_eq_true c56
                            clear c56
                            by_cases c57 : 0 ≤ x16_3
                            · rw [if_pos c57] at H
                              have c57b0 : decide (0 ≤ x16_3) = true := decide_eq_true c57
                              clear c57
                              by_cases c58 : x16_3 < (t706.length : Int)
                              · rw [if_pos c58] at H
                                have c58b0 : decide (x16_3 < (t706.length : Int)) = true := decide_eq_true c58
                                clear c58
                                by_cases c59 : x16_3 < (t709.length : Int)
                                · rw [if_pos c59] at H
                                  have c59b0 : decide (x16_3 < (t709.length : Int)) = true := decide_eq_true c59
                                  clear c59
                                  by_cases c60 : x16_3 < (t724.length : Int)
                                  · rw [if_pos c60] at H
                                    have c60b0 : decide (x16_3 < (t724.length : Int)) = true := decide_eq_true c60
                                    clear c60
                                    obtain ⟨ji61, hji61⟩ : ∃ j_ : Int, (mx (rd t706 x16_3) (rd t709 x16_3)) = j_ := ⟨_, rfl⟩
                                    replace H : (if (rd t724 x16_3) = (ji61) then (if x16_3 < (t729.length : Int) then (if (rd t729 x16_3) = (mn (rd t706 x16_3) (rd t709 x16_3)) then (laws_FnVectors.l0 k3 (wrap64 (x16_3 + 1)) t706 t709 t724 t729) else (some false)) else (none)) else (some false)) = some r := by first | (rw [hji61] at H; exact H) | (simp only [hji61] at H ⊢; exact H)
                                    have hji61_ : (if (rd t706 x16_3) < (rd t709 x16_3) then (rd t709 x16_3) else (rd t706 x16_3)) = ji61 := hji61
                                    by_cases c62 : (rd t724 x16_3) = (ji61)
                                    · rw [if_pos c62] at H
                                      have c62b0 : ((rd t724 x16_3) == (ji61)) = true := beq_iff_eq.mpr c62
                                      have c62b1 : ((rd t724 x16_3) != (ji61)) = false := bne_eq_false_iff_eq.mpr c62
                                      clear c62
                                      by_cases c63 : x16_3 < (t729.length : Int)
                                      · rw [if_pos c63] at H
                                        have c63b0 : decide (x16_3 < (t729.length : Int)) = true := decide_eq_true c63
                                        clear c63
                                        obtain ⟨ji64, hji64⟩ : ∃ j_ : Int, (mn (rd t706 x16_3) (rd t709 x16_3)) = j_ := ⟨_, rfl⟩
                                        replace H : (if (rd t729 x16_3) = (ji64) then (laws_FnVectors.l0 k3 (wrap64 (x16_3 + 1)) t706 t709 t724 t729) else (some false)) = some r := by first | (rw [hji64] at H; exact H) | (simp only [hji64] at H ⊢; exact H)
                                        have hji64_ : (if (rd t709 x16_3) < (rd t706 x16_3) then (rd t709 x16_3) else (rd t706 x16_3)) = ji64 := hji64
                                        by_cases c65 : (rd t729 x16_3) = (ji64)
                                        · rw [if_pos c65] at H
                                          have c65b0 : ((rd t729 x16_3) == (ji64)) = true := beq_iff_eq.mpr c65
                                          have c65b1 : ((rd t729 x16_3) != (ji64)) = false := bne_eq_false_iff_eq.mpr c65
                                          clear c65
                                          have H' := Aside0.mk H
                                          clear H
                                          have hnb66 := NB712_713.out
                                          have hnc66 := NB713_712.out
                                          have hnb67 := NB712_728.out
                                          have hnc67 := NB728_712.out
                                          have hnb68 := NB712_733.out
                                          have hnc68 := NB733_712.out
                                          have hcz69_0 : wr.cell? ⟨gb712, 0, none⟩ = some (.slice Ao10 t706.length co10) := (blk_cell BK712.out 0).trans rfl
                                          have hfz69_0 := blk_frozen BK712.out 0
                                          have p734 : 0 ≤ (x16_3 : Int) := of_decide_eq_true (by first | (with_reducible assumption) | assumption)
                                          have q734 : x16_3 < (t706.length : Int) := of_decide_eq_true (by first | (with_reducible assumption) | assumption)
                                          obtain ⟨ad734, e734, hx734_0⟩ := Kd.at_int (Kd.R_reads' HO_713000.out).2.2 x16_3 p734 q734
                                          cases e734
                                          replace p734 := eq_true p734
                                          replace q734 := eq_true q734
                                          have hnb70 := NB713_728.out
                                          have hnc70 := NB728_713.out
                                          have hnb71 := NB713_733.out
                                          have hnc71 := NB733_713.out
                                          have hcz72_0 : wr.cell? ⟨gb713, 0, none⟩ = some (.slice Ao13 t709.length co13) := (blk_cell BK713.out 0).trans rfl
                                          have hfz72_0 := blk_frozen BK713.out 0
                                          have p735 : 0 ≤ (x16_3 : Int) := of_decide_eq_true (by first | (with_reducible assumption) | assumption)
                                          have q735 : x16_3 < (t709.length : Int) := of_decide_eq_true (by first | (with_reducible assumption) | assumption)
                                          obtain ⟨ad735, e735, hx735_0⟩ := Kd.at_int (Kd.R_reads' HO_714000.out).2.2 x16_3 p735 q735
                                          cases e735
                                          replace p735 := eq_true p735
                                          replace q735 := eq_true q735
                                          have hnb73 := NB728_733.out
                                          have hnc73 := NB733_728.out
                                          have hcz74_0 : wr.cell? ⟨gb728, 0, none⟩ = some (.slice Ao39 t724.length co39) := (blk_cell BK728.out 0).trans rfl
                                          have hfz74_0 := blk_frozen BK728.out 0
                                          have p736 : 0 ≤ (x16_3 : Int) := of_decide_eq_true (by first | (with_reducible assumption) | assumption)
                                          have q736 : x16_3 < (t724.length : Int) := of_decide_eq_true (by first | (with_reducible assumption) | assumption)
                                          obtain ⟨ad736, e736, hx736_0⟩ := Kd.at_int (Kd.R_reads' HO_729000.out).2.2 x16_3 p736 q736
                                          cases e736
                                          replace p736 := eq_true p736
                                          replace q736 := eq_true q736
                                          have hcz75_0 : wr.cell? ⟨gb733, 0, none⟩ = some (.slice Ao47 t729.length co47) := (blk_cell BK733.out 0).trans rfl
                                          have hfz75_0 := blk_frozen BK733.out 0
                                          have p737 : 0 ≤ (x16_3 : Int) := of_decide_eq_true (by first | (with_reducible assumption) | assumption)
                                          have q737 : x16_3 < (t729.length : Int) := of_decide_eq_true (by first | (with_reducible assumption) | assumption)
                                          obtain ⟨ad737, e737, hx737_0⟩ := Kd.at_int (Kd.R_reads' HO_734000.out).2.2 x16_3 p737 q737
                                          cases e737
                                          replace p737 := eq_true p737
                                          replace q737 := eq_true q737
                                          go_wp2
                                          go_roundg k3
                                          case measure => have := HJ5.out; have := HJ26.out; have := HK3.out; omega
                                          case rel => exact ⟨(wrap64 (x16_3 + 1)), (by first | rfl | (simp; done) | (simp [*]; done)), H', ⟨by have := HJ5.out; have := HJ26.out; have := HK3.out; omega⟩, ⟨by (with_reducible repeat (first | apply Kd.R_alloc | apply Kd.R_drewN | apply Kd.R_drew)); exact HO_713000.out⟩, ⟨by (with_reducible repeat (first | apply Kd.R_alloc | apply Kd.R_drewN | apply Kd.R_drew)); exact HO_714000.out⟩, ⟨by (with_reducible repeat (first | apply Kd.R_alloc | apply Kd.R_drewN | apply Kd.R_drew)); exact HO_729000.out⟩, ⟨by (with_reducible repeat (first | apply Kd.R_alloc | apply Kd.R_drewN | apply Kd.R_drew)); exact HO_734000.out⟩, ⟨by (with_reducible repeat (first | refine blk_drewN ?_ _ | refine blk_drew ?_ | refine blk_alloc ?_ _)); exact BK712.out⟩, ⟨by (with_reducible repeat (first | refine blk_drewN ?_ _ | refine blk_drew ?_ | refine blk_alloc ?_ _)); exact BK713.out⟩, ⟨by (with_reducible repeat (first | refine blk_drewN ?_ _ | refine blk_drew ?_ | refine blk_alloc ?_ _)); exact BK728.out⟩, ⟨by (with_reducible repeat (first | refine blk_drewN ?_ _ | refine blk_drew ?_ | refine blk_alloc ?_ _)); exact BK733.out⟩, ⟨by repeat (first | (with_reducible first | exact HB.out | apply below_alloc | apply pw_below_drewN | apply below_drew1 | refine below_set ?_ GE712.out | refine below_set ?_ GE713.out | refine below_set ?_ GE728.out | refine below_set ?_ GE733.out) | exact HB.out)⟩⟩
                                        · rw [if_neg c65] at H
                                          have c65b0 : ((rd t729 x16_3) == (ji64)) = false := beq_eq_false_iff_ne.mpr c65
                                          have c65b1 : ((rd t729 x16_3) != (ji64)) = true := bne_iff_ne.mpr c65
                                          obtain rfl := Option.some.inj H
                                          have hnb76 := NB712_713.out
                                          have hnc76 := NB713_712.out
                                          have hnb77 := NB712_728.out
                                          have hnc77 := NB728_712.out
                                          have hnb78 := NB712_733.out
                                          have hnc78 := NB733_712.out
                                          have hcz79_0 : wr.cell? ⟨gb712, 0, none⟩ = some (.slice Ao10 t706.length co10) := (blk_cell BK712.out 0).trans rfl
                                          have hfz79_0 := blk_frozen BK712.out 0
                                          have p734 : 0 ≤ (x16_3 : Int) := of_decide_eq_true (by first | (with_reducible assumption) | assumption)
                                          have q734 : x16_3 < (t706.length : Int) := of_decide_eq_true (by first | (with_reducible assumption) | assumption)
                                          obtain ⟨ad734, e734, hx734_0⟩ := Kd.at_int (Kd.R_reads' HO_713000.out).2.2 x16_3 p734 q734
                                          cases e734
                                          replace p734 := eq_true p734
                                          replace q734 := eq_true q734
                                          have hnb80 := NB713_728.out
                                          have hnc80 := NB728_713.out
                                          have hnb81 := NB713_733.out
                                          have hnc81 := NB733_713.out
                                          have hcz82_0 : wr.cell? ⟨gb713, 0, none⟩ = some (.slice Ao13 t709.length co13) := (blk_cell BK713.out 0).trans rfl
                                          have hfz82_0 := blk_frozen BK713.out 0
                                          have p735 : 0 ≤ (x16_3 : Int) := of_decide_eq_true (by first | (with_reducible assumption) | assumption)
                                          have q735 : x16_3 < (t709.length : Int) := of_decide_eq_true (by first | (with_reducible assumption) | assumption)
                                          obtain ⟨ad735, e735, hx735_0⟩ := Kd.at_int (Kd.R_reads' HO_714000.out).2.2 x16_3 p735 q735
                                          cases e735
                                          replace p735 := eq_true p735
                                          replace q735 := eq_true q735
                                          have hnb83 := NB728_733.out
                                          have hnc83 := NB733_728.out
                                          have hcz84_0 : wr.cell? ⟨gb728, 0, none⟩ = some (.slice Ao39 t724.length co39) := (blk_cell BK728.out 0).trans rfl
                                          have hfz84_0 := blk_frozen BK728.out 0
                                          have p736 : 0 ≤ (x16_3 : Int) := of_decide_eq_true (by first | (with_reducible assumption) | assumption)
                                          have q736 : x16_3 < (t724.length : Int) := of_decide_eq_true (by first | (with_reducible assumption) | assumption)
                                          obtain ⟨ad736, e736, hx736_0⟩ := Kd.at_int (Kd.R_reads' HO_729000.out).2.2 x16_3 p736 q736
                                          cases e736
                                          replace p736 := eq_true p736
                                          replace q736 := eq_true q736
                                          have hcz85_0 : wr.cell? ⟨gb733, 0, none⟩ = some (.slice Ao47 t729.length co47) := (blk_cell BK733.out 0).trans rfl
                                          have hfz85_0 := blk_frozen BK733.out 0
                                          have p737 : 0 ≤ (x16_3 : Int) := of_decide_eq_true (by first | (with_reducible assumption) | assumption)
                                          have q737 : x16_3 < (t729.length : Int) := of_decide_eq_true (by first | (with_reducible assumption) | assumption)
                                          obtain ⟨ad737, e737, hx737_0⟩ := Kd.at_int (Kd.R_reads' HO_734000.out).2.2 x16_3 p737 q737
                                          cases e737
                                          replace p737 := eq_true p737
                                          replace q737 := eq_true q737
                                          go_wp2
                                          go_ret
                                          exact ⟨by first | rfl | (simp [errW_none, errW_some] <;> rfl) | (simp only [← hji61, ← hji64]; first | rfl | (simp [errW_none, errW_some] <;> rfl)) | (simp [*, errW_none, errW_some] <;> rfl), by repeat (first | (with_reducible first | exact HB.out | apply below_alloc | apply pw_below_drewN | apply below_drew1 | refine below_set ?_ GE712.out | refine below_set ?_ GE713.out | refine below_set ?_ GE728.out | refine below_set ?_ GE733.out) | exact HB.out)⟩
                                      · rw [if_neg c63] at H
                                        exact absurd H (by simp)
                                    · rw [if_neg c62] at H
                                      have c62b0 : ((rd t724 x16_3) == (ji61)) = false := beq_eq_false_iff_ne.mpr c62
                                      have c62b1 : ((rd t724 x16_3) != (ji61)) = true := bne_iff_ne.mpr c62
                                      obtain rfl := Option.some.inj H
                                      have hnb86 := NB712_713.out
                                      have hnc86 := NB713_712.out
                                      have hnb87 := NB712_728.out
                                      have hnc87 := NB728_712.out
                                      have hnb88 := NB712_733.out
                                      have hnc88 := NB733_712.out
                                      have hcz89_0 : wr.cell? ⟨gb712, 0, none⟩ = some (.slice Ao10 t706.length co10) := (blk_cell BK712.out 0).trans rfl
                                      have hfz89_0 := blk_frozen BK712.out 0
                                      have p734 : 0 ≤ (x16_3 : Int) := of_decide_eq_true (by first | (with_reducible assumption) | assumption)
                                      have q734 : x16_3 < (t706.length : Int) := of_decide_eq_true (by first | (with_reducible assumption) | assumption)
                                      obtain ⟨ad734, e734, hx734_0⟩ := Kd.at_int (Kd.R_reads' HO_713000.out).2.2 x16_3 p734 q734
                                      cases e734
                                      replace p734 := eq_true p734
                                      replace q734 := eq_true q734
                                      have hnb90 := NB713_728.out
                                      have hnc90 := NB728_713.out
                                      have hnb91 := NB713_733.out
                                      have hnc91 := NB733_713.out
                                      have hcz92_0 : wr.cell? ⟨gb713, 0, none⟩ = some (.slice Ao13 t709.length co13) := (blk_cell BK713.out 0).trans rfl
                                      have hfz92_0 := blk_frozen BK713.out 0
                                      have p735 : 0 ≤ (x16_3 : Int) := of_decide_eq_true (by first | (with_reducible assumption) | assumption)
                                      have q735 : x16_3 < (t709.length : Int) := of_decide_eq_true (by first | (with_reducible assumption) | assumption)
                                      obtain ⟨ad735, e735, hx735_0⟩ := Kd.at_int (Kd.R_reads' HO_714000.out).2.2 x16_3 p735 q735
                                      cases e735
                                      replace p735 := eq_true p735
                                      replace q735 := eq_true q735
                                      have hnb93 := NB728_733.out
                                      have hnc93 := NB733_728.out
                                      have hcz94_0 : wr.cell? ⟨gb728, 0, none⟩ = some (.slice Ao39 t724.length co39) := (blk_cell BK728.out 0).trans rfl
                                      have hfz94_0 := blk_frozen BK728.out 0
                                      have p736 : 0 ≤ (x16_3 : Int) := of_decide_eq_true (by first | (with_reducible assumption) | assumption)
                                      have q736 : x16_3 < (t724.length : Int) := of_decide_eq_true (by first | (with_reducible assumption) | assumption)
                                      obtain ⟨ad736, e736, hx736_0⟩ := Kd.at_int (Kd.R_reads' HO_729000.out).2.2 x16_3 p736 q736
                                      cases e736
                                      replace p736 := eq_true p736
                                      replace q736 := eq_true q736
                                      go_wp2
                                      go_ret
                                      exact ⟨by first | rfl | (simp [errW_none, errW_some] <;> rfl) | (simp only [← hji61]; first | rfl | (simp [errW_none, errW_some] <;> rfl)) | (simp [*, errW_none, errW_some] <;> rfl), by repeat (first | (with_reducible first | exact HB.out | apply below_alloc | apply pw_below_drewN | apply below_drew1 | refine below_set ?_ GE712.out | refine below_set ?_ GE713.out | refine below_set ?_ GE728.out | refine below_set ?_ GE733.out) | exact HB.out)⟩
                                  · rw [if_neg c60] at H
                                    exact absurd H (by simp)
                                · rw [if_neg c59] at H
                                  exact absurd H (by simp)
                              · rw [if_neg c58] at H
                                exact absurd H (by simp)
                            · rw [if_neg c57] at H
                              exact absurd H (by simp)
                          · rw [if_neg c56] at H
                            have c56b0 : decide (x16_3 < 16) = false := decide_eq_false c56
                            clear c56
                            obtain rfl := Option.some.inj H
                            go_wp2
                            go_ret
                            exact ⟨by first | rfl | (simp [errW_none, errW_some] <;> rfl) | (simp [*, errW_none, errW_some] <;> rfl), by repeat (first | (with_reducible first | exact HB.out | apply below_alloc | apply pw_below_drewN | apply below_drew1 | refine below_set ?_ GE712.out | refine below_set ?_ GE713.out | refine below_set ?_ GE728.out | refine below_set ?_ GE733.out) | exact HB.out)⟩
              · rw [if_neg c24] at H
                exact absurd H (by simp)
            · rw [if_neg c23] at H
              exact absurd H (by simp)
          · rw [if_neg c21] at H
            have c21b0 : (t715 == 0) = false := beq_eq_false_iff_ne.mpr c21
            have c21b1 : (t715 != 0) = true := bne_iff_ne.mpr c21
            obtain rfl := Option.some.inj H
            go_wp2
            go_ret
            exact ⟨by first | rfl | (simp [errW_none, errW_some] <;> rfl) | (simp [*, errW_none, errW_some] <;> rfl), by repeat (first | (with_reducible first | exact HB.out | apply below_alloc | apply pw_below_drewN | apply below_drew1 | refine below_set ?_ GE712.out | refine below_set ?_ GE713.out) | exact HB.out)⟩

/-- THE ONE PURE STATEMENT of laws_FnVectors: yours. -/
def laws_FnVectors.Pure : Prop := ∀ (l0 : List Int), l0.length ≤ maxLen → l0.length * 1 ≤ 140737488351232 → (∀ x ∈ l0, (Lit.int .u8 x).wf = true) → ∃ k, laws_FnVectors.f k l0 = some true
theorem laws_FnVectors.walk (P : laws_FnVectors.Pure) (a0 : Option Addr) (len0 cap0 : Nat) (z0 : List Int) (w : World) (w0 : (a0 = none ∧ len0 = 0 ∧ cap0 = 0 ∧ z0 = []) ∨ ∃ x, a0 = some x ∧ len0 ≤ cap0 ∧ cap0 ≤ maxLen ∧ z0.length = cap0 ∧ (∀ i, i < z0.length → w.cell? (x.add i) = some (.int .u8 (z0.getD i 0))) ∧ ∀ n ∈ z0, (Lit.int .u8 n).wf = true) (y0 : len0 * 1 ≤ 140737488351232) :
    Calls Try.prog 7 #[.slice a0 len0 cap0] w fun e w' => e = .returned (.bool true) ∧ Below w.heap.size w w' := by
  obtain ⟨l0, rfl, hr0, hm0, hw0, hc0⟩ := ReadsInt.ofRowC w0
  obtain ⟨k, h⟩ := P l0 hm0 y0 hw0
  refine (laws_FnVectors.calls k _ _ l0 true w (Kd.C_of_reads (d := (0 : Int)) (h1 := fun _ => rfl) hr0) hc0 h).mono ?_
  rintro e w' ⟨rfl, hd⟩
  exact ⟨rfl, hd⟩

end Go.Proofs.Ytlpdklfijainaaa.P
