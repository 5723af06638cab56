/- Of drawn vectors the program's order is the document's, its order turned over is the other one, the join has of each actor the greater count and the meet the lesser one: for every code. -/
import Derived.Test.YtlpdklfijainaaaQVecOps
import Derived.Test.YtlpdklfijainaaaQVecDraw
import Derived.Test.YtlpdklfijainaaaPx34
import Derived.Test.YtlpdklfijainaaaPx26
import Derived.Test.YtlpdklfijainaaaPx28
namespace Go.Proofs.Ytlpdklfijainaaa.Pure
open Go.RowKit Go.Proofs.Ytlpdklfijainaaa.P Go.Proofs.Ytlpdklfijainaaa.Q Go.Proofs.YtlpdklfijainaaaW.PrintWords Go.Proofs.YtlpdklfijainaaaW.PrintLast
set_option linter.unusedVariables false
set_option linter.unusedSimpArgs false

theorem drawTwo_tot {c : List Int} (hc : CodeOK c) : Tot (fun k => spec_l02DrawTwo.f k c) fun _ => True := by
  unfold spec_l02DrawTwo.f
  refine Tot.bind (Tot.of (source_tot hc)) ?_
  rintro ⟨c', a, s⟩ ⟨rfl, h⟩
  refine Tot.bind (oddVector_tot hc h (by omega)) ?_
  rintro ⟨v, a1, s1⟩ ⟨hv, k⟩
  refine Tot.bind (oddVector_tot hc k (by omega)) ?_
  rintro ⟨u, a2, s2⟩ ⟨hu, k'⟩
  refine Tot.bind (Tot.of (next_tot 4 hc k' (by omega))) ?_
  rintro ⟨t, a3, s3⟩ ⟨k0, k1, k2⟩
  have hv1 := hv.1
  simp only at *
  rw [spec_copy (by omega)]
  refine Tot.ite (fun g => Tot.let_ _ (Tot.ret _ trivial)) (fun g => Tot.ite (fun g' => Tot.let_ _ (Tot.ite (fun g'' => ?_) (fun g'' => Tot.ret _ trivial))) (fun g' => Tot.ret _ trivial))
  refine Tot.bind (Tot.of (next_tot _ hc k2 (by omega))) ?_
  rintro ⟨x, a4, s4⟩ ⟨j0, j1, j2⟩
  simp only at *
  exact Tot.pos j0 (Tot.pos (by omega) (Tot.ret _ trivial))

theorem vorder_turned (a b : List Int) (h : (vorder a b).2 = 0) : 0 ≤ (vorder a b).1 ∧ (vorder a b).1 < 4 ∧ vok a = true ∧ vok b = true ∧ vorder b a = (rd [0, 2, 1, 3] (vorder a b).1, 0) := by
  by_cases h0 : vok a = true ∧ vok b = true
  · have e1 : vorder a b = if vle a b ∧ vle b a then (0, 0) else if vle a b then (1, 0) else if vle b a then (2, 0) else (3, 0) := by unfold vorder; rw [if_pos h0]
    have e2 : vorder b a = if vle b a ∧ vle a b then (0, 0) else if vle b a then (1, 0) else if vle a b then (2, 0) else (3, 0) := by unfold vorder; rw [if_pos ⟨h0.2, h0.1⟩]
    rw [e1, e2]
    by_cases h1 : vle a b <;> by_cases h2 : vle b a <;> simp [h1, h2, h0, rd]
  · unfold vorder at h
    rw [if_neg h0] at h; simp at h

theorem parts_loop (a b : List Int) (ha : a.length = 16) (hb : b.length = 16) : ∀ (d n : Nat), n + d = 16 →
    Tot (fun k => laws_FnVectors.l0 k (n : Int) a b (vjoin a b) (vmeet a b)) (· = true) := by
  intro d
  induction d with
  | zero =>
    intro n hn
    exact Tot.step (fun k => by rw [laws_FnVectors.l0]) (Tot.neg (by omega) (Tot.ret _ rfl))
  | succ d ih =>
    intro n hn
    have hj := sixteen_length fun i => mx (rd a (i : Int)) (rd b (i : Int))
    have hm := sixteen_length fun i => mn (rd a (i : Int)) (rd b (i : Int))
    refine Tot.step (fun k => by rw [laws_FnVectors.l0]) (Tot.pos (by omega) (Tot.pos (by omega) (Tot.pos (by omega) (Tot.pos (by omega) (Tot.pos (by unfold vjoin; omega) (Tot.pos ?_ (Tot.pos (by unfold vmeet; omega) (Tot.pos ?_ ?_))))))))
    · exact sixteen_rd _ (by omega)
    · exact sixteen_rd _ (by omega)
    · rw [wnat (by omega)]
      exact ih (n + 1) (by omega)

theorem both (a b : List Int) : Tot (fun k => laws_FnVectors.j0 k (vorder a b).1 (vorder a b).2 false a b) (· = true) := by
  refine Tot.step (fun k => by rw [laws_FnVectors.j0]) (Tot.neg (by simp) (Tot.ite (fun h => ?_) (fun _ => Tot.ret _ rfl)))
  obtain ⟨h0, h1, ha, hb, e⟩ := vorder_turned a b h
  refine Tot.bind (impl_vorder b a) ?_
  rintro r rfl
  refine Tot.let_ _ (Tot.pos h0 (Tot.pos (by simpa using h1) ?_))
  refine Tot.bind (impl_vjoin ha hb) ?_
  rintro r rfl
  refine Tot.bind (impl_vmeet ha hb) ?_
  rintro r rfl
  rw [e]
  refine Tot.pos rfl (Tot.pos rfl (Tot.pos rfl ?_))
  simp only [bne_self_eq_false]
  refine Tot.step (fun k => by rw [laws_FnVectors.j1]) (Tot.neg (by simp) ?_)
  exact parts_loop a b (vok_iff.1 ha).1 (vok_iff.1 hb).1 16 0 (by omega)

theorem FnVectors : laws_FnVectors.Pure := by
  intro l0 _ _ w0
  apply Tot.rounds
  unfold laws_FnVectors.f
  refine Tot.ite (fun _ => Tot.ret _ rfl) (fun h => ?_)
  have hc : CodeOK l0 := CodeOK.of (by omega) w0
  unfold spec_DrawVecOrder.f
  refine Tot.bind (Tot.bind (drawTwo_tot hc) (Q := fun _ => True) ?_) ?_
  · rintro ⟨a, b⟩ -
    exact Tot.ret _ trivial
  · rintro ⟨a, b⟩ -
    refine Tot.bind (impl_vorder a b) ?_
    rintro r rfl
    refine Tot.bind (spec_vorder a b) ?_
    rintro r rfl
    refine Tot.pos rfl ?_
    simp only [bne_self_eq_false]
    exact both a b
end Go.Proofs.Ytlpdklfijainaaa.Pure
