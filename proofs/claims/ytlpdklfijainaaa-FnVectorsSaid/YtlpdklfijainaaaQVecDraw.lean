import Derived.Test.YtlpdklfijainaaaQVec
import Derived.Test.YtlpdklfijainaaaPx23
import Derived.Test.YtlpdklfijainaaaPx24
import Derived.Test.YtlpdklfijainaaaPx25
/-! Draws of vectors. -/
namespace Go.Proofs.Ytlpdklfijainaaa.Q
open Go.RowKit Go.Proofs.Ytlpdklfijainaaa.P Go.Proofs.YtlpdklfijainaaaW.PrintWords Go.Proofs.YtlpdklfijainaaaW.PrintLast Go.Proofs.YtlpdklfijainaaaW.PrintMore
set_option linter.unusedVariables false
set_option linter.unusedSimpArgs false

theorem spec_new : spec_l02New.f = some (List.replicate 16 0) := by
  unfold spec_l02New.f; rw [if_pos (by omega)]
theorem spec_copy {a : List Int} (h : a.length < 17592186044416) : spec_l02Copy.f a = some a := by
  unfold spec_l02Copy.f
  rw [Option.bind_some, if_pos (by simpa using h), List.nil_append]
theorem vector_tot {c : List Int} {m a s : Int} (hc : CodeOK c) (h : Src m a s) (hm : m < 4611686018427387700) :
    Tot (fun k => spec_l01Src_vector.f k c a s) fun r => r.1.length = 16 ∧ (∀ x ∈ r.1, 0 ≤ x ∧ x ≤ 4) ∧ Src (m + 12) r.2.1 r.2.2 := by
  have loop : ∀ (d n : Nat) (m a s : Int) (v : List Int), n + d = 4 → v.length = 16 → (∀ x ∈ v, 0 ≤ x ∧ x ≤ 4) → Src m a s → m + 3 * d < 4611686018427387800 →
      Tot (fun k => spec_l01Src_vector.l0 k (n : Int) c a s v) fun r => r.1.length = 16 ∧ (∀ x ∈ r.1, 0 ≤ x ∧ x ≤ 4) ∧ Src (m + 3 * d) r.2.1 r.2.2 := by
    intro d
    induction d with
    | zero =>
      intro n m a s v hn hl hv h hm
      refine Tot.step (fun k => by rw [spec_l01Src_vector.l0]) (Tot.neg (by omega) (Tot.ret _ ⟨hl, hv, by exact h.up (by omega) (by omega)⟩))
    | succ d ih =>
      intro n m a s v hn hl hv h hm
      refine Tot.step (fun k => by rw [spec_l01Src_vector.l0]) (Tot.pos (by omega) ?_)
      refine Tot.bind (Tot.of (next_tot 5 hc h (by omega))) ?_
      rintro ⟨x, a1, s1⟩ ⟨k0, k1, k2⟩
      simp only at *
      refine Tot.pos (by omega) (Tot.pos (by omega) ?_)
      rw [wnat (by omega)]
      refine (ih (n + 1) (m + 3) a1 s1 _ (by omega) (by simp [hl]) ?_ k2 (by omega)).mono ?_
      · intro y hy
        rcases List.mem_or_eq_of_mem_set hy with hy | rfl
        · exact hv y hy
        · omega
      · rintro r ⟨h1, h2, h3⟩
        exact ⟨h1, h2, h3.up (by omega) (by omega)⟩
  unfold spec_l01Src_vector.f
  rw [spec_new]
  refine Tot.let_ _ ((loop 4 0 m a s (List.replicate 16 0) (by omega) (by simp) ?_ h (by omega)).mono ?_)
  · intro x hx; rw [(List.mem_replicate.1 hx).2]; omega
  · rintro r ⟨h1, h2, h3⟩
    exact ⟨h1, h2, h3.up (by omega) (by omega)⟩
/-- An odd vector: at most seventeen numbers of a fixed size. -/
def oddV (v : List Int) : Prop := v.length ≤ 17 ∧ ∀ x ∈ v, -1 ≤ x ∧ x ≤ 1000000000001
theorem oddVector_tot {c : List Int} {m a s : Int} (hc : CodeOK c) (h : Src m a s) (hm : m < 4611686018427387600) :
    Tot (fun k => spec_l01Src_oddVector.f k c a s) fun r => oddV r.1 ∧ Src (m + 21) r.2.1 r.2.2 := by
  unfold spec_l01Src_oddVector.f
  refine Tot.bind (vector_tot hc h (by omega)) ?_
  rintro ⟨v, a1, s1⟩ ⟨hl, hv, k⟩
  simp only at *
  have hv' : ∀ x ∈ v, -1 ≤ x ∧ x ≤ 1000000000001 := fun x hx => by have := hv x hx; omega
  refine Tot.bind (Tot.of (next_tot 14 hc k (by omega))) ?_
  rintro ⟨t, a2, s2⟩ ⟨k0, k1, k2⟩
  simp only at *
  refine Tot.ite (fun g => ?_) (fun g => Tot.ite (fun g' => ?_) (fun g' => Tot.ite (fun g'' => ?_) (fun g'' => ?_)))
  · refine Tot.bind (Tot.of (next_tot 17 hc k2 (by omega))) ?_
    rintro ⟨x, a3, s3⟩ ⟨j0, j1, j2⟩
    simp only at *
    refine Tot.pos j0 (Tot.pos (by omega) (Tot.ret _ ⟨⟨?_, ?_⟩, j2.up (by omega) (by omega)⟩))
    · simp only [List.length_take]; omega
    · intro y hy; exact hv' y (List.mem_of_mem_take hy)
  · refine Tot.bind (Tot.of (next_tot 16 hc k2 (by omega))) ?_
    rintro ⟨x, a3, s3⟩ ⟨j0, j1, j2⟩
    simp only at *
    refine Tot.let_ _ ?_
    refine Tot.bind (Tot.of (next_tot 3 hc j2 (by omega))) ?_
    rintro ⟨y, a4, s4⟩ ⟨i0, i1, i2⟩
    simp only at *
    have hr := rd_range (xs := [(-1), 1000000000000, 1000000000001]) (P := fun x => -1 ≤ x ∧ x ≤ 1000000000001) (by simp) i0 (by simp; omega)
    refine Tot.pos i0 (Tot.pos (by simp; omega) (Tot.pos j0 (Tot.pos (by omega) (Tot.ret _ ⟨⟨?_, ?_⟩, i2.up (by omega) (by omega)⟩))))
    · simp only [List.length_set]; omega
    · intro z hz
      rcases List.mem_or_eq_of_mem_set hz with hz | rfl
      · exact hv' z hz
      · exact hr
  · refine Tot.pos (by omega) (Tot.ret _ ⟨⟨?_, ?_⟩, k2.up (by omega) (by omega)⟩)
    · simp only [List.length_append, List.length_singleton]; omega
    · intro z hz
      rcases List.mem_append.1 hz with hz | hz
      · exact hv' z hz
      · rw [List.mem_singleton.1 hz]; omega
  · exact Tot.ret _ ⟨⟨by simp only; omega, hv'⟩, k2.up (by omega) (by omega)⟩
end Go.Proofs.Ytlpdklfijainaaa.Q
