import Derived.Test.YtlpdklfijainaaaQ0
import Derived.Test.YtlpdklfijainaaaPx3
/-! The source of drawn choices: each draw answers, within its bounds. -/
namespace Go.Proofs.Ytlpdklfijainaaa.Q
open Go.RowKit Go.Proofs.Ytlpdklfijainaaa.P Go.Proofs.YtlpdklfijainaaaW.PrintWords Go.Proofs.YtlpdklfijainaaaW.PrintLast Go.Proofs.YtlpdklfijainaaaW.PrintMore
set_option linter.unusedVariables false
set_option linter.unusedSimpArgs false

/-- A code: its bytes. -/
def CodeOK (c : List Int) : Prop := c.length ≤ 1048576 ∧ ∀ x ∈ c, 0 ≤ x ∧ x ≤ 255
/-- A source: how far it is (at most m), its seed. -/
def Src (m : Int) (at_ seed : Int) : Prop := 0 ≤ at_ ∧ at_ ≤ m ∧ m ≤ 4611686018427387904 ∧ 0 ≤ seed ∧ seed < 2147483648

theorem Src.up {m m' a s : Int} (h : Src m a s) (hm : m ≤ m') (hm' : m' ≤ 4611686018427387904) : Src m' a s := by
  unfold Src at *
  omega

theorem CodeOK.of {c : List Int} (h : (c.length : Int) ≤ 1048576) (hw : ∀ x ∈ c, (Lit.int .u8 x).wf = true) : CodeOK c :=
  ⟨by omega, fun x hx => by have := hw x hx; simp [Lit.wf, IntKind.min, IntKind.max, IntKind.signed, IntKind.bits] at this; omega⟩

theorem source_tot {c : List Int} (h : CodeOK c) : ∃ r, spec_l01Source.f c = some r ∧ r.1 = c ∧ Src 0 r.2.1 r.2.2 := by
  refine ⟨_, rfl, rfl, ?_⟩
  have := h.1
  unfold Src
  simp only
  omega

theorem byte_tot {c : List Int} {m a s : Int} (hc : CodeOK c) (h : Src m a s) (hm : m < 4611686018427387904) :
    ∃ r, spec_l01Src_byte.f c a s = some r ∧ 0 ≤ r.1 ∧ r.1 ≤ 255 ∧ Src (m + 1) r.2.1 r.2.2 := by
  obtain ⟨h1, h2, h3, h4, h5⟩ := h
  obtain ⟨hl, hb⟩ := hc
  have e1 : wrap64 (a + 1) = a + 1 := w64 (by omega) (by omega)
  have e2 : wrap64 (a + 1 - 1) = a := by rw [w64] <;> omega
  unfold spec_l01Src_byte.f
  rw [e1, e2]
  by_cases g1 : a + 1 ≤ (c.length : Int)
  · rw [if_pos g1, if_pos h1, if_pos (by omega)]
    have hr := rd_range (i := a) hb h1 (by omega)
    have e3 : wrap64 (rd c a) = rd c a := w64 (by omega) (by omega)
    have e4 : wrap64 (s * 31) = s * 31 := w64 (by omega) (by omega)
    have e5 : wrap64 (s * 31 + rd c a) = s * 31 + rd c a := w64 (by omega) (by omega)
    have e6 : wrap64 (s * 31 + rd c a + 7) = s * 31 + rd c a + 7 := w64 (by omega) (by omega)
    rw [e3, e4, e5, e6, tmod_pos (by omega)]
    refine ⟨_, rfl, hr.1, hr.2, ?_⟩
    unfold Src
    simp only
    omega
  · rw [if_neg g1]
    split
    · refine ⟨_, rfl, by simp, by simp, ?_⟩
      unfold Src
      simp only
      omega
    · have e4 : wrap64 (s * 1103515245) = s * 1103515245 := w64 (by omega) (by omega)
      have e5 : wrap64 (s * 1103515245 + 12345) = s * 1103515245 + 12345 := w64 (by omega) (by omega)
      rw [e4, e5, tmod_pos (a := s * 1103515245 + 12345) (by omega), tdiv_pos (by omega), w64 (x := (s * 1103515245 + 12345) % 2147483648 / 65536) (by omega) (by omega), tmod_pos (by omega)]
      refine ⟨_, rfl, ?_, ?_, ?_⟩
      · show 0 ≤ (s * 1103515245 + 12345) % 2147483648 / 65536 % 256
        omega
      · show (s * 1103515245 + 12345) % 2147483648 / 65536 % 256 ≤ 255
        omega
      · unfold Src
        simp only
        omega

theorem next_tot {c : List Int} {m a s : Int} (n : Int) (hc : CodeOK c) (h : Src m a s) (hm : m < 4611686018427387900) :
    ∃ r, spec_l01Src_next.f c a s n = some r ∧ 0 ≤ r.1 ∧ (r.1 < n ∨ r.1 = 0) ∧ Src (m + 3) r.2.1 r.2.2 := by
  unfold spec_l01Src_next.f
  split
  · refine ⟨_, rfl, by simp, by simp, ?_⟩
    unfold Src at h ⊢
    simp only
    omega
  · split
    · obtain ⟨r, e, h0, h1, h2⟩ := byte_tot hc h (by omega)
      rw [e, Option.bind_some, if_neg (by omega), tmod_pos h0]
      refine ⟨_, rfl, Int.emod_nonneg _ (by omega), .inl (Int.emod_lt_of_pos _ (by omega)), ?_⟩
      unfold Src at h2 ⊢
      simp only
      omega
    · obtain ⟨r, e, h0, h1, h2⟩ := byte_tot hc h (by omega)
      rw [e, Option.bind_some]
      obtain ⟨q, e', h0', h1', h2'⟩ := byte_tot hc h2 (by omega)
      rw [e', Option.bind_some]
      obtain ⟨p, e'', h0'', h1'', h2''⟩ := byte_tot hc h2' (by omega)
      rw [e'', Option.bind_some, if_neg (by omega)]
      rw [w64 (x := r.1 * 65536) (by omega) (by omega), w64 (x := q.1 * 256) (by omega) (by omega), w64 (x := r.1 * 65536 + q.1 * 256) (by omega) (by omega), w64 (x := r.1 * 65536 + q.1 * 256 + p.1) (by omega) (by omega), tmod_pos (by omega)]
      refine ⟨_, rfl, Int.emod_nonneg _ (by omega), .inl (Int.emod_lt_of_pos _ (by omega)), ?_⟩
      unfold Src at h2'' ⊢
      simp only
      omega
end Go.Proofs.Ytlpdklfijainaaa.Q
