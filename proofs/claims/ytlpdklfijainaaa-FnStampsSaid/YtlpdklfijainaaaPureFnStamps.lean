/- Of two drawn stamps that are unlike the program has one below the other, and StampNext is above all of a drawn list, and no earlier one of its actor is: for every code. -/
import Derived.Test.YtlpdklfijainaaaQStampNext
import Derived.Test.YtlpdklfijainaaaPx16
namespace Go.Proofs.Ytlpdklfijainaaa.Pure
open Go.RowKit Go.Proofs.Ytlpdklfijainaaa.P Go.Proofs.Ytlpdklfijainaaa.Q Go.Proofs.YtlpdklfijainaaaW.PrintWords Go.Proofs.YtlpdklfijainaaaW.PrintLast
set_option linter.unusedVariables false
set_option linter.unusedSimpArgs false

theorem less_loop (l : List St) (b t : Int) (hl : l.length ≤ 4096) (hok : sok t b = true) (habove : ∀ s ∈ l, sless s.f0 s.f1 t b = true) (hleast : t = 1 ∨ ∃ s ∈ l, sless s.f0 s.f1 (t - 1) b = false) (d : Nat) :
    ∀ (n : Nat) (v : Bool), n + d = l.length → v = (l.take n).all (fun s => sless s.f0 s.f1 (t - 1) b) →
    Tot (fun k => laws_FnStamps.l0 k l b v (n : Int) t b (t - 1) b) (· = true) := by
  induction d with
  | zero =>
    intro n v hn hv
    rw [List.take_of_length_le (by omega)] at hv
    refine Tot.step (fun k => by rw [laws_FnStamps.l0]) (Tot.neg (by omega) (Tot.pos rfl ?_))
    rw [spec_ok, hok]
    refine Tot.let_ _ (Tot.pos rfl (Tot.ite (fun _ => Tot.ret _ rfl) (fun g => Tot.ret _ ?_)))
    obtain ⟨s, hs, h⟩ := hleast.resolve_left g
    rw [hv, Bool.not_eq_true', List.all_eq_false]
    exact ⟨s, hs, by simp [h]⟩
  | succ d ih =>
    intro n v hn hv
    have hlt : n < l.length := by omega
    refine Tot.step (fun k => by rw [laws_FnStamps.l0]) (Tot.pos (by omega) (Tot.pos (by omega) ?_))
    rw [rdS_nat hlt, spec_less, spec_less, habove _ (List.getElem_mem hlt)]
    have hw : wrap64 ((n : Int) + 1) = ((n + 1 : Nat) : Int) := by rw [w64] <;> omega
    rw [hw]
    have ht : (l.take (n + 1)).all (fun s => sless s.f0 s.f1 (t - 1) b) = (v && sless l[n].f0 l[n].f1 (t - 1) b) := by
      rw [List.take_succ_eq_append_getElem hlt, List.all_append, ← hv]
      simp
    refine Tot.let_ _ (Tot.pos rfl (Tot.ite (fun g => Tot.let_ _ (ih (n + 1) _ (by omega) ?_)) (fun g => ih (n + 1) _ (by omega) ?_)))
    · rw [ht, g, Bool.true_and]
    · rw [ht]; simp [g]

theorem next_law (l : List St) (b : Int) : Tot (fun k => laws_FnStamps.l0 k l b true 0 (nextOf l b).1 (nextOf l b).2.1 (wrap64 ((nextOf l b).1 - 1)) b) (· = true) ∨ (nextOf l b).2.2 ≠ 0 := by
  by_cases hl : l.length > 4096
  · right; unfold nextOf; rw [if_pos hl]; simp
  by_cases hb : 0 ≤ b ∧ b < 16
  rotate_left
  · right; unfold nextOf; rw [if_neg hl, if_neg hb]; simp
  by_cases hf : l.all sfit = true
  rotate_left
  · right; unfold nextOf; rw [if_neg hl, if_pos hb, if_neg hf]; simp
  have e : nextOf l b = snext (stop l 0 0).1 (stop l 0 0).2 b := by unfold nextOf; rw [if_neg hl, if_pos hb, if_pos hf]
  rw [e]
  generalize hp : stop l 0 0 = p
  unfold snext
  generalize hu : Go.Proofs.Ytlpdklfijainaaa.Q.up p.1 p.2 b = u
  unfold Go.Proofs.Ytlpdklfijainaaa.Q.up at hu
  by_cases hok : sok u b = true
  rotate_left
  · right; rw [if_neg hok]; simp
  left
  rw [if_pos hok]
  simp only
  have hfit := List.all_eq_true.1 hf
  have hp0 : p.1 = 0 ∧ p.2 = 0 ∨ ∃ s ∈ l, p = (s.f0, s.f1) := by
    rcases stop_mem l 0 0 with h | h
    · rw [hp] at h; rw [h]; exact .inl ⟨rfl, rfl⟩
    · rw [hp] at h; exact .inr h
  have hok' := sok_iff.1 hok
  have hpu : sless p.1 p.2 u b = true := by
    rw [sless_iff]
    rcases hp0 with h | ⟨s, hs, h⟩
    · omega
    · have := sfit_iff.1 (hfit s hs)
      rw [h] at hu ⊢
      simp only at *
      omega
  rw [← hp] at hpu
  obtain ⟨h0, habove⟩ := stop_keeps l 0 0 u b hpu
  rw [w64 (x := u - 1) (by omega) (by omega)]
  refine less_loop l b u (by omega) hok habove ?_ l.length 0 true (by omega) (by simp)
  by_cases h1 : u = 1
  · exact .inl h1
  · right
    rcases hp0 with h | ⟨s, hs, h⟩
    · omega
    · refine ⟨s, hs, ?_⟩
      rw [h] at hu
      simp only at hu
      rw [sless_false]
      omega

theorem second_part (c : List Int) (hc : CodeOK c) : Tot (fun k => laws_FnStamps.j0 k c false) (· = true) := by
  refine Tot.step (fun k => by rw [laws_FnStamps.j0]) (Tot.neg (by simp) ?_)
  refine Tot.bind (drawNext_tot hc) ?_
  rintro ⟨l, b⟩ -
  refine Tot.bind (impl_next l b) ?_
  rintro r rfl
  refine Tot.bind (spec_next l b) ?_
  rintro r rfl
  refine Tot.pos rfl (Tot.ite (fun h => ?_) (fun _ => Tot.ret _ rfl))
  rcases next_law l b with k | k
  · exact k
  · exact absurd h k

theorem FnStamps : laws_FnStamps.Pure := by
  intro l0 _ _ w0
  apply Tot.rounds
  unfold laws_FnStamps.f
  refine Tot.ite (fun _ => Tot.ret _ rfl) (fun h => ?_)
  have hc : CodeOK l0 := CodeOK.of (by omega) w0
  refine Tot.bind (drawLess_tot hc) ?_
  rintro ⟨t, a, u, b⟩ -
  simp only [impl_less, spec_less, bne_self_eq_false]
  refine Tot.let_ _ (Tot.let_ _ (Tot.neg (by simp) (Tot.ite (fun g => Tot.let_ _ (Tot.let_ _ (Tot.neg ?_ (second_part l0 hc)))) (fun g => Tot.let_ _ ?_))))
  · intro k
    rw [beq_iff_eq] at k
    have g' : ¬ (t = u ∧ a = b) := by
      rintro ⟨rfl, rfl⟩
      simp at g
    rcases hs : sless t a u b with _ | _
    · rw [hs] at k
      have := sless_false.1 hs
      have := sless_false.1 k.symm
      omega
    · rw [hs] at k
      have := sless_iff.1 hs
      have := sless_iff.1 k.symm
      omega
  · have : sless t a u b = false := by
      rw [sless_false]
      intro k
      apply g
      by_cases h1 : t = u <;> by_cases h2 : a = b <;> simp [h1, h2]
      omega
    rw [this]
    exact second_part l0 hc
end Go.Proofs.Ytlpdklfijainaaa.Pure
