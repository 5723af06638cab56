import Derived.Test.YtlpdklfijainaaaQSrc
import Derived.Test.YtlpdklfijainaaaPx3
import Derived.Test.YtlpdklfijainaaaPx4
import Derived.Test.YtlpdklfijainaaaPx5
import Derived.Test.YtlpdklfijainaaaPx7
/-! Stamps: their order, which are valid, the draws. -/
namespace Go.Proofs.Ytlpdklfijainaaa.Q
open Go.RowKit Go.Proofs.Ytlpdklfijainaaa.P Go.Proofs.YtlpdklfijainaaaW.PrintWords Go.Proofs.YtlpdklfijainaaaW.PrintLast Go.Proofs.YtlpdklfijainaaaW.PrintMore
set_option linter.unusedVariables false
set_option linter.unusedSimpArgs false

theorem Src.up {m m' a s : Int} (h : Src m a s) (hm : m ≤ m') (hm' : m' ≤ 4611686018427387904) : Src m' a s := by
  unfold Src at *
  omega

def sless (t a u b : Int) : Bool := decide (t < u ∨ t = u ∧ a < b)
theorem sless_iff {t a u b : Int} : sless t a u b = true ↔ t < u ∨ t = u ∧ a < b := by simp [sless]
theorem sless_false {t a u b : Int} : sless t a u b = false ↔ ¬ (t < u ∨ t = u ∧ a < b) := by simp only [sless, decide_eq_false_iff_not]
theorem impl_less (t a u b : Int) : impl_StampLess.f t a u b = some (sless t a u b) := by
  unfold impl_StampLess.f sless
  split <;> (congr 1; rw [decide_eq_decide]; omega)
theorem spec_less (t a u b : Int) : spec_StampLess.f t a u b = some (sless t a u b) := by
  unfold spec_StampLess.f sless
  split
  · congr 1; symm; rw [decide_eq_true_eq]; omega
  · split
    · congr 1; rw [decide_eq_decide]; omega
    · congr 1; symm; rw [decide_eq_false_iff_not]; omega
theorem impl_actor (a : Int) : impl_isActor.f a = some (decide (0 ≤ a ∧ a < 16)) := by
  unfold impl_isActor.f
  split
  · congr 1; rw [decide_eq_decide]; omega
  · congr 1; symm; rw [decide_eq_false_iff_not]; omega

def sok (t a : Int) : Bool := decide (1 ≤ t ∧ t ≤ 1000000000000 ∧ 0 ≤ a ∧ a < 16)
theorem sok_iff {t a : Int} : sok t a = true ↔ 1 ≤ t ∧ t ≤ 1000000000000 ∧ 0 ≤ a ∧ a < 16 := by simp [sok]
theorem impl_ok (t a : Int) : impl_StampOK.f t a = some (sok t a) := by
  unfold impl_StampOK.f sok
  rw [impl_actor]
  split
  · split
    · rw [Option.bind_some]; congr 1; rw [decide_eq_decide]; omega
    · congr 1; symm; rw [decide_eq_false_iff_not]; omega
  · congr 1; symm; rw [decide_eq_false_iff_not]; omega
theorem spec_ok (t a : Int) : spec_StampOK.f t a = some (sok t a) := by
  unfold spec_StampOK.f sok
  split
  · split
    · split
      · congr 1; rw [decide_eq_decide]; omega
      · congr 1; symm; rw [decide_eq_false_iff_not]; omega
    · congr 1; symm; rw [decide_eq_false_iff_not]; omega
  · congr 1; symm; rw [decide_eq_false_iff_not]; omega
def none_ (t a : Int) : Bool := decide (t = 0 ∧ a = 0)
theorem spec_none (t a : Int) : spec_l02None.f t a = some (none_ t a) := by
  unfold spec_l02None.f none_
  split
  · rename_i h; subst h; simp [Bool.beq_eq_decide_eq]
  · rename_i h; simp [h]

theorem stamp_tot {c : List Int} {m a s : Int} (hc : CodeOK c) (h : Src m a s) (hm : m < 4611686018427387800) :
    Tot (fun _ => spec_l01Src_stamp.f c a s) fun r => 1 ≤ r.1 ∧ r.1 ≤ 12 ∧ 0 ≤ r.2.1 ∧ r.2.1 < 4 ∧ Src (m + 6) r.2.2.1 r.2.2.2 := by
  unfold spec_l01Src_stamp.f
  refine Tot.bind (Tot.of (next_tot 12 hc h (by omega))) ?_
  rintro ⟨t, a', s'⟩ ⟨h0, h1, h2⟩
  refine Tot.bind (Tot.of (next_tot 4 hc h2 (by omega))) ?_
  rintro ⟨u, a'', s''⟩ ⟨g0, g1, g2⟩
  refine Tot.ret _ ?_
  simp only at *
  rw [w64 (by omega) (by omega)]
  exact ⟨by omega, by omega, by omega, by omega, g2.up (by omega) (by omega)⟩

theorem oddStamp_tot {c : List Int} {m a s : Int} (hc : CodeOK c) (h : Src m a s) (hm : m < 4611686018427387700) :
    Tot (fun _ => spec_l01Src_oddStamp.f c a s) fun r => -1 ≤ r.1 ∧ r.1 ≤ 1000000000001 ∧ -1 ≤ r.2.1 ∧ r.2.1 ≤ 16 ∧ Src (m + 9) r.2.2.1 r.2.2.2 := by
  unfold spec_l01Src_oddStamp.f
  refine Tot.bind (Tot.of (next_tot 10 hc h (by omega))) ?_
  rintro ⟨t, a', s'⟩ ⟨h0, h1, h2⟩
  simp only at *
  refine Tot.ite (fun g => ?_) (fun g => Tot.ite (fun g' => ?_) (fun g' => Tot.ite (fun g'' => ?_) (fun g'' => ?_)))
  · refine Tot.let_ _ ?_
    refine Tot.bind (Tot.of (next_tot 4 hc h2 (by omega))) ?_
    rintro ⟨u, a1, s1⟩ ⟨k0, k1, k2⟩
    simp only at *
    refine Tot.pos k0 (Tot.pos (by simp; omega) ?_)
    refine Tot.bind (Tot.of (next_tot 3 hc k2 (by omega))) ?_
    rintro ⟨v, a2, s2⟩ ⟨l0, l1, l2⟩
    simp only at *
    have hr := rd_range (xs := [0, (-1), 1000000000000, 1000000000001]) (P := fun x => -1 ≤ x ∧ x ≤ 1000000000001) (by simp) k0 (by simp; omega)
    exact Tot.ret _ ⟨hr.1, hr.2, by simp only; omega, by simp only; omega, l2.up (by omega) (by omega)⟩
  · refine Tot.bind (Tot.of (next_tot 3 hc h2 (by omega))) ?_
    rintro ⟨u, a1, s1⟩ ⟨k0, k1, k2⟩
    simp only at *
    refine Tot.let_ _ ?_
    refine Tot.bind (Tot.of (next_tot 3 hc k2 (by omega))) ?_
    rintro ⟨v, a2, s2⟩ ⟨l0, l1, l2⟩
    simp only at *
    refine Tot.pos l0 (Tot.pos (by simp; omega) ?_)
    have hr := rd_range (xs := [(-1), 16, 15]) (P := fun x => -1 ≤ x ∧ x ≤ 16) (by simp) l0 (by simp; omega)
    refine Tot.ret _ ?_
    simp only at *
    rw [w64 (by omega) (by omega)]
    exact ⟨by omega, by omega, hr.1, hr.2, l2.up (by omega) (by omega)⟩
  · refine Tot.ret _ ?_
    exact ⟨by simp, by simp, by simp, by simp, h2.up (by omega) (by omega)⟩
  · refine Tot.bind (stamp_tot hc h2 (by omega)) ?_
    rintro ⟨u, v, a1, s1⟩ ⟨k0, k1, k2, k3, k4⟩
    simp only at *
    exact Tot.ret _ ⟨by simp only; omega, by simp only; omega, by simp only; omega, by simp only; omega, k4.up (by omega) (by omega)⟩

theorem word_tot {c : List Int} {m a s : Int} (hc : CodeOK c) (h : Src m a s) (hm : m < 4611686018427387800) :
    Tot (fun _ => spec_l01Src_word.f c a s) fun r => r.1.size ≤ 5 ∧ Src (m + 3) r.2.1 r.2.2 := by
  unfold spec_l01Src_word.f
  refine Tot.let_ _ ?_
  refine Tot.bind (Tot.of (next_tot 10 hc h (by omega))) ?_
  rintro ⟨u, a1, s1⟩ ⟨k0, k1, k2⟩
  simp only at *
  refine Tot.pos k0 (Tot.pos (by simp; omega) ?_)
  refine Tot.ret _ ⟨?_, k2⟩
  have : u = 0 ∨ u = 1 ∨ u = 2 ∨ u = 3 ∨ u = 4 ∨ u = 5 ∨ u = 6 ∨ u = 7 ∨ u = 8 ∨ u = 9 := by omega
  rcases this with rfl | rfl | rfl | rfl | rfl | rfl | rfl | rfl | rfl | rfl <;> (simp only; decide)
end Go.Proofs.Ytlpdklfijainaaa.Q
