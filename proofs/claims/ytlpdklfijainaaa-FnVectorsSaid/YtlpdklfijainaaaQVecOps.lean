import Derived.Test.YtlpdklfijainaaaQVec
import Derived.Test.YtlpdklfijainaaaPx29
import Derived.Test.YtlpdklfijainaaaPx31
import Derived.Test.YtlpdklfijainaaaPx32
import Derived.Test.YtlpdklfijainaaaPx33
/-! Vectors: order, join, meet. -/
namespace Go.Proofs.Ytlpdklfijainaaa.Q
open Go.RowKit Go.Proofs.Ytlpdklfijainaaa.P Go.Proofs.YtlpdklfijainaaaW.PrintWords Go.Proofs.YtlpdklfijainaaaW.PrintLast Go.Proofs.YtlpdklfijainaaaW.PrintMore
set_option linter.unusedVariables false
set_option linter.unusedSimpArgs false

/-- The order of two valid vectors; ErrBad. -/
noncomputable def vorder (a b : List Int) : Int × Int :=
  if vok a = true ∧ vok b = true then (if vle a b ∧ vle b a then (0, 0) else if vle a b then (1, 0) else if vle b a then (2, 0) else (3, 0)) else (0, 1)
theorem impl_vorder (a b : List Int) : Tot (fun k => impl_VecOrder.f k a b) (· = vorder a b) := by
  have j1 : ∀ u v w : Bool, Tot (fun k => impl_VecOrder.j1 k u v w) (· = if w = true then (0, 0) else if u = true then (1, 0) else if v = true then (2, 0) else (3, 0)) := by
    intro u v w
    refine Tot.step (fun k => by rw [impl_VecOrder.j1]) ?_
    cases w <;> cases u <;> cases v <;> exact Tot.ret _ rfl
  have j0 : ∀ u : Bool, (u = false → vok a = true ∧ vok b = true) → Tot (fun k => impl_VecOrder.j0 k u a b) (· = if u = true then (0, 1) else (if vle a b ∧ vle b a then (0, 0) else if vle a b then (1, 0) else if vle b a then (2, 0) else (3, 0))) := by
    intro u hu
    refine Tot.step (fun k => by rw [impl_VecOrder.j0]) (Tot.ite (fun g => Tot.ret _ (by rw [if_pos g])) (fun g => ?_))
    obtain ⟨ha, hb⟩ := hu (by simpa using g)
    have ha := (vok_iff.1 ha).1
    have hb := (vok_iff.1 hb).1
    refine Tot.bind (impl_vle ha hb) ?_
    rintro r rfl
    refine Tot.bind (impl_vle hb ha) ?_
    rintro r rfl
    by_cases h1 : vle a b <;> by_cases h2 : vle b a
    · refine Tot.pos (by simp [h1]) ((j1 _ _ _).mono ?_); rintro r rfl; simp [g, h1, h2]
    · refine Tot.pos (by simp [h1]) ((j1 _ _ _).mono ?_); rintro r rfl; simp [g, h1, h2]
    · refine Tot.neg (by simp [h1]) ((j1 _ _ _).mono ?_); rintro r rfl; simp [g, h1, h2]
    · refine Tot.neg (by simp [h1]) ((j1 _ _ _).mono ?_); rintro r rfl; simp [g, h1, h2]
  unfold impl_VecOrder.f
  refine Tot.bind (impl_vok a) ?_
  rintro r rfl
  refine Tot.ite (fun h => Tot.bind (impl_vok b) ?_) (fun h => (j0 true (by simp)).mono ?_)
  · rintro r rfl
    refine (j0 _ (fun k => ⟨h, by simpa using k⟩)).mono ?_
    rintro r rfl
    unfold vorder
    by_cases hb : vok b = true <;> simp [h, hb]
  · rintro r rfl
    unfold vorder
    simp [h]
theorem spec_vorder (a b : List Int) : Tot (fun k => spec_VecOrder.f k a b) (· = vorder a b) := by
  have j1 : ∀ w : Bool, a.length = 16 → b.length = 16 → w = decide (vle a b ∧ vle b a) → Tot (fun k => spec_VecOrder.j1 k w a b) (· = if vle a b ∧ vle b a then (0, 0) else if vle a b then (1, 0) else if vle b a then (2, 0) else (3, 0)) := by
    intro w ha hb hw
    refine Tot.step (fun k => by rw [spec_VecOrder.j1]) (Tot.ite (fun g => Tot.ret _ ?_) (fun g => ?_))
    · rw [hw, decide_eq_true_eq] at g
      rw [if_pos g]
    · rw [hw, decide_eq_true_eq] at g
      rw [if_neg g]
      refine Tot.bind (spec_covers hb ha) ?_
      rintro r rfl
      refine Tot.ite (fun h => Tot.ret _ ?_) (fun h => ?_)
      · rw [if_pos (by simpa using h)]
      · rw [if_neg (by simpa using h)]
        refine Tot.bind (spec_covers ha hb) ?_
        rintro r rfl
        refine Tot.ite (fun h => Tot.ret _ ?_) (fun h => Tot.ret _ ?_)
        · rw [if_pos (by simpa using h)]
        · rw [if_neg (by simpa using h)]
  have j0 : ∀ u : Bool, (u = false → vok a = true ∧ vok b = true) → Tot (fun k => spec_VecOrder.j0 k u a b) (· = if u = true then (0, 1) else (if vle a b ∧ vle b a then (0, 0) else if vle a b then (1, 0) else if vle b a then (2, 0) else (3, 0))) := by
    intro u hu
    refine Tot.step (fun k => by rw [spec_VecOrder.j0]) (Tot.ite (fun g => Tot.ret _ (by rw [if_pos g])) (fun g => ?_))
    obtain ⟨ha, hb⟩ := hu (by simpa using g)
    have ha := (vok_iff.1 ha).1
    have hb := (vok_iff.1 hb).1
    rw [if_neg g]
    refine Tot.bind (spec_covers ha hb) ?_
    rintro r rfl
    refine Tot.ite (fun h => Tot.bind (spec_covers hb ha) ?_) (fun h => j1 _ ha hb ?_)
    · rintro r rfl
      refine j1 _ ha hb ?_
      rw [decide_eq_true_eq] at h
      rw [decide_eq_decide]
      exact ⟨fun k => ⟨k, h⟩, fun k => k.1⟩
    · rw [decide_eq_true_eq] at h
      symm; rw [decide_eq_false_iff_not]
      exact fun k => h k.2
  unfold spec_VecOrder.f
  refine Tot.bind (spec_vok a) ?_
  rintro r rfl
  refine Tot.ite (fun h => Tot.bind (spec_vok b) ?_) (fun h => (j0 true (by simp)).mono ?_)
  · rintro r rfl
    refine (j0 _ (fun k => ⟨h, by simpa using k⟩)).mono ?_
    rintro r rfl
    unfold vorder
    by_cases hb : vok b = true <;> simp [h, hb]
  · rintro r rfl
    unfold vorder
    simp [h]

theorem impl_vecjoin {a b : List Int} (ha : a.length = 16) (hb : b.length = 16) : Tot (fun k => impl_vecJoin.f k a b) (· = vjoin a b) := by
  have loop : ∀ (d n : Nat) (o : List Int), n + d = 16 → o.length = 16 → (∀ i : Nat, i < n → rd o (i : Int) = mx (rd a (i : Int)) (rd b (i : Int))) →
      Tot (fun k => impl_vecJoin.l0 k o 16 (n : Int) a b) (· = vjoin a b) := by
    intro d
    induction d with
    | zero =>
      intro n o hn ho h
      refine Tot.step (fun k => by rw [impl_vecJoin.l0]) (Tot.neg (by omega) (Tot.ret _ ?_))
      exact sixteen_eq ho (fun i hi => h i (by omega))
    | succ d ih =>
      intro n o hn ho h
      refine Tot.step (fun k => by rw [impl_vecJoin.l0]) (Tot.pos (by omega) (Tot.pos (by omega) (Tot.pos (by omega) (Tot.pos (by omega) (Tot.pos (by omega) ?_)))))
      rw [wnat (by omega)]
      refine ih (n + 1) _ (by omega) (by simp [ho]) ?_
      intro i hi
      by_cases e : i = n
      · subst e; exact rd_set_self _ (by omega)
      · rw [rd_set_ne _ (by omega) (by omega) (by omega)]; exact h i (by omega)
  unfold impl_vecJoin.f
  refine Tot.pos (by omega) (Tot.let_ _ ?_)
  exact loop 16 0 (List.replicate 16 0) (by omega) (by simp) (by omega)
theorem impl_vjoin {a b : List Int} (ha : vok a = true) (hb : vok b = true) : Tot (fun k => impl_VecJoin.f k a b) (· = (vjoin a b, 0)) := by
  unfold impl_VecJoin.f
  refine Tot.bind (impl_vok a) ?_
  rintro r rfl
  refine Tot.pos ha (Tot.bind (impl_vok b) ?_)
  rintro r rfl
  refine Tot.pos hb (Tot.bind (impl_vecjoin (vok_iff.1 ha).1 (vok_iff.1 hb).1) ?_)
  rintro r rfl
  exact Tot.ret _ rfl
theorem impl_vmeet {a b : List Int} (ha : vok a = true) (hb : vok b = true) : Tot (fun k => impl_VecMeet.f k a b) (· = (vmeet a b, 0)) := by
  have hal := (vok_iff.1 ha).1
  have hbl := (vok_iff.1 hb).1
  have loop : ∀ (d n : Nat) (o : List Int), n + d = 16 → o.length = 16 → (∀ i : Nat, i < n → rd o (i : Int) = mn (rd a (i : Int)) (rd b (i : Int))) →
      Tot (fun k => impl_VecMeet.l0 k o 16 (n : Int) a b) (· = (vmeet a b, 0)) := by
    intro d
    induction d with
    | zero =>
      intro n o hn ho h
      refine Tot.step (fun k => by rw [impl_VecMeet.l0]) (Tot.neg (by omega) (Tot.ret _ ?_))
      rw [Prod.mk.injEq]
      exact ⟨sixteen_eq ho (fun i hi => h i (by omega)), rfl⟩
    | succ d ih =>
      intro n o hn ho h
      refine Tot.step (fun k => by rw [impl_VecMeet.l0]) (Tot.pos (by omega) (Tot.pos (by omega) (Tot.pos (by omega) (Tot.pos (by omega) (Tot.pos (by omega) ?_)))))
      rw [wnat (by omega)]
      refine ih (n + 1) _ (by omega) (by simp [ho]) ?_
      intro i hi
      by_cases e : i = n
      · subst e; exact rd_set_self _ (by omega)
      · rw [rd_set_ne _ (by omega) (by omega) (by omega)]; exact h i (by omega)
  unfold impl_VecMeet.f
  refine Tot.bind (impl_vok a) ?_
  rintro r rfl
  refine Tot.pos ha (Tot.bind (impl_vok b) ?_)
  rintro r rfl
  rw [hb]
  refine Tot.step (fun k => by rw [impl_VecMeet.j0]) (Tot.neg (by simp) (Tot.pos (by omega) (Tot.let_ _ ?_)))
  exact loop 16 0 (List.replicate 16 0) (by omega) (by simp) (by omega)
end Go.Proofs.Ytlpdklfijainaaa.Q
