/- Of drawn registers the program's join is the document's, the same both ways, one of both, and joined with a third one the same whichever is joined first: for every two codes. -/
import Derived.Test.YtlpdklfijainaaaQRegs
import Derived.Test.YtlpdklfijainaaaPx10
namespace Go.Proofs.Ytlpdklfijainaaa.Pure
open Go.RowKit Go.Proofs.Ytlpdklfijainaaa.P Go.Proofs.Ytlpdklfijainaaa.Q Go.Proofs.YtlpdklfijainaaaW.PrintWords Go.Proofs.YtlpdklfijainaaaW.PrintLast
set_option linter.unusedVariables false
set_option linter.unusedSimpArgs false

theorem rjoin_ok {p q : R3} (h : (rjoin p q).2.2.2 = 0) : rok p = true ∧ rok q = true ∧ rjoin p q = ((rmax p q).1, (rmax p q).2.1, (rmax p q).2.2, 0) := by
  unfold rjoin at h ⊢
  by_cases k : rok p = true ∧ rok q = true
  · rw [if_pos k]; exact ⟨k.1, k.2, rfl⟩
  · rw [if_neg k] at h; simp at h
theorem rjoin_of {p q : R3} (h : rok p = true) (k : rok q = true) : rjoin p q = ((rmax p q).1, (rmax p q).2.1, (rmax p q).2.2, 0) := by
  unfold rjoin; rw [if_pos ⟨h, k⟩]
theorem rjoin_code {p q : R3} : (rjoin p q).2.2.2 = 0 ↔ rok p = true ∧ rok q = true := by
  unfold rjoin
  by_cases k : rok p = true ∧ rok q = true
  · rw [if_pos k]; simp [k]
  · rw [if_neg k]; simp [k]
theorem rjoin_codes (p q : R3) : (rjoin p q).2.2.2 = (rjoin q p).2.2.2 := by
  unfold rjoin
  by_cases k : rok p = true ∧ rok q = true
  · rw [if_pos k, if_pos ⟨k.2, k.1⟩]
  · rw [if_neg k, if_neg (fun g => k ⟨g.2, g.1⟩)]
theorem unlike_iff {a b c d : Int} {x y : ByteArray} : ((!(a == b) || (!(c == d))) || (!(x.toList == y.toList))) = !decide (req (a, c, x) (b, d, y)) := by
  unfold req
  by_cases h : a = b <;> by_cases k : c = d <;> by_cases l : x.toList = y.toList <;> simp [h, k, l]
theorem alike_iff {a b c d : Int} {x y : ByteArray} : ((a == b && (c == d)) && (x.toList == y.toList)) = decide (req (a, c, x) (b, d, y)) := by
  unfold req
  by_cases h : a = b <;> by_cases k : c = d <;> by_cases l : x.toList = y.toList <;> simp [h, k, l]
theorem rok_rmax {p q : R3} (h : rok p = true) (k : rok q = true) : rok (rmax p q) = true := by
  rcases rmax_or p q with e | e <;> rw [e] <;> assumption

theorem third (a b c : R3) (ha : rok a = true) (hb : rok b = true) :
    Tot (fun k => laws_FnRegs.j2 k false a.1 a.2.1 a.2.2 b.1 b.2.1 b.2.2 c.1 c.2.1 c.2.2 (rmax a b).1 (rmax a b).2.1 (rmax a b).2.2) (· = true) := by
  refine Tot.step (fun k => by rw [laws_FnRegs.j2]) (Tot.neg (by simp) ?_)
  refine Tot.bind (impl_rjoin b.1 b.2.1 b.2.2 c.1 c.2.1 c.2.2) ?_
  rintro r rfl
  refine Tot.bind (spec_rjoin b.1 b.2.1 b.2.2 c.1 c.2.1 c.2.2) ?_
  rintro r rfl
  refine Tot.pos rfl (Tot.ite (fun h => ?_) (fun _ => Tot.ret _ rfl))
  obtain ⟨_, hc, e⟩ := rjoin_ok h
  have e' : rjoin b c = _ := e
  rw [e]
  refine Tot.bind (impl_rjoin (rmax a b).1 (rmax a b).2.1 (rmax a b).2.2 c.1 c.2.1 c.2.2) ?_
  rintro r rfl
  refine Tot.bind (impl_rjoin a.1 a.2.1 a.2.2 (rmax b c).1 (rmax b c).2.1 (rmax b c).2.2) ?_
  rintro r rfl
  have e1 := rjoin_of (p := rmax a b) (q := c) (rok_rmax ha hb) hc
  have e2 := rjoin_of (p := a) (q := rmax b c) ha (rok_rmax hb hc)
  have e1' : rjoin ((rmax a b).1, (rmax a b).2.1, (rmax a b).2.2) (c.1, c.2.1, c.2.2) = _ := e1
  have e2' : rjoin (a.1, a.2.1, a.2.2) ((rmax b c).1, (rmax b c).2.1, (rmax b c).2.2) = _ := e2
  rw [e1', e2']
  refine Tot.pos rfl (Tot.pos rfl (Tot.ret _ ?_))
  rw [alike_iff, decide_eq_true_eq]
  exact rmax_assoc a b c

theorem second (a b c : R3) :
    Tot (fun k => laws_FnRegs.j1 k (rjoin a b).2.2.2 false a.1 a.2.1 a.2.2 b.1 b.2.1 b.2.2 c.1 c.2.1 c.2.2 (rjoin a b).1 (rjoin a b).2.1 (rjoin a b).2.2.1) (· = true) := by
  refine Tot.step (fun k => by rw [laws_FnRegs.j1]) (Tot.neg (by simp) ?_)
  refine Tot.bind (impl_rjoin b.1 b.2.1 b.2.2 a.1 a.2.1 a.2.2) ?_
  rintro r rfl
  refine Tot.ite (fun h => ?_) (fun h => Tot.ret _ (by rw [beq_iff_eq]; exact (rjoin_codes a b).symm))
  obtain ⟨ha, hb, e⟩ := rjoin_ok h
  have e2 : rjoin (b.1, b.2.1, b.2.2) (a.1, a.2.1, a.2.2) = _ := rjoin_of (p := b) (q := a) hb ha
  rw [e, e2, unlike_iff]
  refine Tot.neg (by simpa using rmax_comm b a) ?_
  refine Tot.ite (fun g => ?_) (fun _ => third a b c ha hb)
  rw [unlike_iff] at g ⊢
  have : rmax a b = b := (rmax_or a b).resolve_left (fun k => by rw [k] at g; simp [req] at g)
  have h2 : (!decide (req ((rmax a b).1, (rmax a b).2.1, (rmax a b).2.2) (b.1, b.2.1, b.2.2))) = false := by rw [this]; simp [req]
  rw [h2]
  exact third a b c ha hb

theorem first (c d : List Int) (v : Bool) (h : v = false → CodeOK c ∧ CodeOK d) : Tot (fun k => laws_FnRegs.j0 k c d v) (· = true) := by
  refine Tot.step (fun k => by rw [laws_FnRegs.j0]) (Tot.ite (fun _ => Tot.ret _ rfl) (fun g => ?_))
  obtain ⟨hc, hd⟩ := h (by simpa using g)
  refine Tot.bind (drawReg_tot hc) ?_
  rintro ⟨t, u, x, t', u', x'⟩ -
  refine Tot.bind (drawReg_tot hd) ?_
  rintro ⟨t1, u1, x1, t2, u2, x2⟩ -
  refine Tot.bind (impl_rjoin t u x t' u' x') ?_
  rintro r rfl
  refine Tot.bind (spec_rjoin t u x t' u' x') ?_
  rintro r rfl
  refine Tot.pos rfl ?_
  simp only [beq_self_eq_true, Bool.not_true, Bool.or_self]
  exact second (t, u, x) (t', u', x') (t1, u1, x1)

theorem FnRegs : laws_FnRegs.Pure := by
  intro l0 l1 _ _ w0 _ _ w1
  apply Tot.rounds
  unfold laws_FnRegs.f
  refine Tot.ite (fun h => first _ _ _ (fun k => by cases k)) (fun h => first _ _ _ (fun k => ⟨CodeOK.of (by omega) w0, CodeOK.of ?_ w1⟩))
  have := of_decide_eq_false k
  omega
end Go.Proofs.Ytlpdklfijainaaa.Pure
