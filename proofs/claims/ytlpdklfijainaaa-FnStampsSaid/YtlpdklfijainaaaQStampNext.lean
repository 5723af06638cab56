import Derived.Test.YtlpdklfijainaaaQStamp
import Derived.Test.YtlpdklfijainaaaPx13
import Derived.Test.YtlpdklfijainaaaPx14
import Derived.Test.YtlpdklfijainaaaPx12
import Derived.Test.YtlpdklfijainaaaPx11
/-! StampNext: the least stamp of an actor above all of a list. -/
namespace Go.Proofs.Ytlpdklfijainaaa.Q
open Go.RowKit Go.Proofs.Ytlpdklfijainaaa.P Go.Proofs.YtlpdklfijainaaaW.PrintWords Go.Proofs.YtlpdklfijainaaaW.PrintLast Go.Proofs.YtlpdklfijainaaaW.PrintMore
set_option linter.unusedVariables false
set_option linter.unusedSimpArgs false

abbrev St := S24
/-- Valid, or zero. -/
def sfit (s : St) : Bool := sok s.f0 s.f1 || none_ s.f0 s.f1
theorem sfit_iff {s : St} : sfit s = true ↔ (1 ≤ s.f0 ∧ s.f0 ≤ 1000000000000 ∧ 0 ≤ s.f1 ∧ s.f1 < 16) ∨ (s.f0 = 0 ∧ s.f1 = 0) := by
  simp [sfit, sok, none_]
theorem rdS_nat {l : List St} {n : Nat} (h : n < l.length) : rd_T24 l (n : Int) = l[n] := by
  simp [rd_T24, List.getD, h]
/-- The greater one of a stamp and those of a list. -/
def stop (l : List St) (t a : Int) : Int × Int := l.foldl (fun p s => if sless p.1 p.2 s.f0 s.f1 = true then (s.f0, s.f1) else p) (t, a)
/-- What is answered above the greatest one. -/
def up (t a b : Int) : Int := if t < 1 ∨ b ≤ a then t + 1 else t
def snext (t a b : Int) : Int × Int × Int := if sok (up t a b) b = true then (up t a b, b, 0) else (0, 0, 11)
theorem nextAbove_tot (t a b : Int) (h : -9223372036854775808 ≤ t) (h' : t < 9223372036854775807) : Tot (fun k => impl_nextAbove.f k t a b) (· = snext t a b) := by
  have last : ∀ u : Int, Tot (fun k => impl_nextAbove.j1 k u b) (· = if sok u b = true then (u, b, 0) else (0, 0, 11)) := by
    intro u
    refine Tot.step (fun k => by rw [impl_nextAbove.j1]) ?_
    rw [impl_ok]
    exact Tot.let_ _ (Tot.ite (fun g => Tot.ret _ (by rw [if_pos g])) (fun g => Tot.ret _ (by rw [if_neg g])))
  have j0 : ∀ v : Bool, Tot (fun k => impl_nextAbove.j0 k v t b) (· = if sok (if v = true then t + 1 else t) b = true then ((if v = true then t + 1 else t), b, 0) else (0, 0, 11)) := by
    intro v
    refine Tot.step (fun k => by rw [impl_nextAbove.j0]) ?_
    rw [w64 (x := t + 1) (by omega) (by omega)]
    refine Tot.ite (fun g => ?_) (fun g => ?_)
    · rw [if_pos g]; exact last _
    · rw [if_neg g]; exact last _
  unfold impl_nextAbove.f snext up
  refine Tot.ite (fun g => ?_) (fun g => ?_)
  · simpa [g] using j0 true
  · have := j0 (decide (b ≤ a))
    simpa [g] using this

theorem impl_next_loop (b : Int) (l : List St) (hl : l.length ≤ 4096) (d : Nat) : ∀ (n : Nat) (t a : Int), n + d = l.length → (t = 0 ∧ a = 0 ∨ sok t a = true) →
    Tot (fun k => impl_StampNext.l0 k b l (l.length : Int) (n : Int) t a) (· = if (l.drop n).all sfit = true then snext (stop (l.drop n) t a).1 (stop (l.drop n) t a).2 b else (0, 0, 4)) := by
  induction d with
  | zero =>
    intro n t a hn ht
    refine Tot.step (fun k => by rw [impl_StampNext.l0]) (Tot.neg (by omega) ?_)
    have hs : -9223372036854775808 ≤ t ∧ t < 9223372036854775807 := by
      rcases ht with ⟨rfl, _⟩ | h
      · omega
      · rw [sok_iff] at h; omega
    refine Tot.bind (nextAbove_tot t a b hs.1 hs.2) ?_
    rintro ⟨x, y, z⟩ h
    refine Tot.ret _ ?_
    have e : l.drop n = [] := List.drop_eq_nil_of_le (by omega)
    simp [e, stop, ← h]
  | succ d ih =>
    intro n t a hn ht
    have hlt : n < l.length := by omega
    have hc : l.drop n = l[n] :: l.drop (n + 1) := List.drop_eq_getElem_cons hlt
    refine Tot.step (fun k => by rw [impl_StampNext.l0]) (Tot.pos (by omega) (Tot.pos (by omega) (Tot.pos (by omega) ?_)))
    rw [rdS_nat hlt]
    have hw : wrap64 ((n : Int) + 1) = ((n + 1 : Nat) : Int) := by rw [w64] <;> omega
    have step : ∀ v : Bool, (v = false → sfit l[n] = true) → (v = true → sfit l[n] = false) → Tot (fun k => impl_StampNext.j1 k b l (l.length : Int) (n : Int) v t a l[n].f0 l[n].f1) (· = if (l.drop n).all sfit = true then snext (stop (l.drop n) t a).1 (stop (l.drop n) t a).2 b else (0, 0, 4)) := by
      intro v hv hv'
      refine Tot.step (fun k => by rw [impl_StampNext.j1]) (Tot.ite (fun g => Tot.ret _ ?_) (fun g => ?_))
      · rw [hc, List.all_cons, hv' g]; simp
      · have hf := hv (by simpa using g)
        rw [impl_less, hw]
        refine Tot.let_ _ (Tot.ite (fun g' => (ih (n + 1) _ _ (by omega) ?_).mono ?_) (fun g' => (ih (n + 1) _ _ (by omega) ht).mono ?_))
        · rw [sfit_iff] at hf
          rw [sok_iff]; omega
        · rintro r rfl
          rw [hc, List.all_cons, hf, Bool.true_and]
          simp only [stop, List.foldl_cons, if_pos g']
        · rintro r rfl
          rw [hc, List.all_cons, hf, Bool.true_and]
          simp only [stop, List.foldl_cons, if_neg g']
    have hz : ((!(l[n].f0 == 0)) || (!(l[n].f1 == 0))) = !(none_ l[n].f0 l[n].f1) := by
      unfold none_
      by_cases h : l[n].f0 = 0 <;> by_cases k : l[n].f1 = 0 <;> simp [h, k]
    rw [hz]
    refine Tot.ite (fun g => ?_) (fun g => step false ?_ (by simp))
    · rw [impl_ok]
      refine Tot.let_ _ (step _ ?_ ?_)
      · intro h; simp at h; simp [sfit, h]
      · intro h; simp at h g; simp [sfit, h, g]
    · intro _; simp at g; simp [sfit, g]

-- the order and the greatest one
theorem sless_trans {t a u b v c : Int} (h : sless t a u b = true) (k : sless u b v c = true) : sless t a v c = true := by
  rw [sless_iff] at *; omega
theorem stop_keeps (l : List St) : ∀ t a x y : Int, sless (stop l t a).1 (stop l t a).2 x y = true → sless t a x y = true ∧ ∀ s ∈ l, sless s.f0 s.f1 x y = true := by
  induction l with
  | nil => intro t a x y h; exact ⟨h, by simp⟩
  | cons s l ih =>
    intro t a x y h
    simp only [stop, List.foldl_cons] at h
    by_cases g : sless t a s.f0 s.f1 = true
    · rw [if_pos g] at h
      obtain ⟨h1, h2⟩ := ih s.f0 s.f1 x y h
      refine ⟨sless_trans g h1, ?_⟩
      intro z hz
      rcases List.mem_cons.1 hz with rfl | hz
      · exact h1
      · exact h2 z hz
    · rw [if_neg g] at h
      obtain ⟨h1, h2⟩ := ih t a x y h
      refine ⟨h1, ?_⟩
      intro z hz
      rcases List.mem_cons.1 hz with rfl | hz
      · rw [sless_iff] at *; omega
      · exact h2 z hz
theorem stop_mem (l : List St) : ∀ t a : Int, stop l t a = (t, a) ∨ ∃ s ∈ l, stop l t a = (s.f0, s.f1) := by
  induction l with
  | nil => intro t a; exact .inl rfl
  | cons s l ih =>
    intro t a
    simp only [stop, List.foldl_cons]
    by_cases g : sless t a s.f0 s.f1 = true
    · rw [if_pos g]
      rcases ih s.f0 s.f1 with h | ⟨z, hz, h⟩
      · exact .inr ⟨s, List.mem_cons_self, h⟩
      · exact .inr ⟨z, List.mem_cons_of_mem _ hz, h⟩
    · rw [if_neg g]
      rcases ih t a with h | ⟨z, hz, h⟩
      · exact .inl h
      · exact .inr ⟨z, List.mem_cons_of_mem _ hz, h⟩

theorem spec_less_loop (b : Int) (hb : 0 ≤ b ∧ b < 16) (l : List St) (hl : l.length ≤ 4096) (hf : ∀ s ∈ l, sfit s = true) (d : Nat) : ∀ (n : Nat) (t a : Int), n + d = l.length → (t = 0 ∧ a = 0 ∨ sok t a = true) →
    Tot (fun k => spec_StampNext.l1 k l b (n : Int) (up t a b) b) (· = snext (stop (l.drop n) t a).1 (stop (l.drop n) t a).2 b) := by
  induction d with
  | zero =>
    intro n t a hn ht
    refine Tot.step (fun k => by rw [spec_StampNext.l1]) (Tot.neg (by omega) ?_)
    have e : l.drop n = [] := List.drop_eq_nil_of_le (by omega)
    have hu : 1 ≤ up t a b := by
      unfold up
      rcases ht with ⟨rfl, _⟩ | h
      · simp
      · rw [sok_iff] at h; split <;> omega
    rw [e]
    change Tot _ (· = snext t a b)
    unfold snext
    refine Tot.ite (fun g => Tot.ret _ ?_) (fun g => Tot.ret _ ?_)
    · rw [if_neg]
      rw [sok_iff]; omega
    · rw [if_pos]
      rw [sok_iff]; omega
  | succ d ih =>
    intro n t a hn ht
    have hlt : n < l.length := by omega
    have hc : l.drop n = l[n] :: l.drop (n + 1) := List.drop_eq_getElem_cons hlt
    have hs := hf l[n] (List.getElem_mem hlt)
    rw [sfit_iff] at hs
    refine Tot.step (fun k => by rw [spec_StampNext.l1]) (Tot.pos (by omega) (Tot.pos (by omega) ?_))
    rw [rdS_nat hlt, spec_less]
    have hw : wrap64 ((n : Int) + 1) = ((n + 1 : Nat) : Int) := by rw [w64] <;> omega
    have hw' : wrap64 (l[n].f0 + 1) = l[n].f0 + 1 := by rw [w64] <;> omega
    rw [hw, hw']
    have hp : t = 0 ∧ a = 0 ∨ (1 ≤ t ∧ t ≤ 1000000000000 ∧ 0 ≤ a ∧ a < 16) := by rw [sok_iff] at ht; exact ht
    have next : ∀ v : Int, v = up (if sless t a l[n].f0 l[n].f1 = true then (l[n].f0, l[n].f1) else (t, a)).1 (if sless t a l[n].f0 l[n].f1 = true then (l[n].f0, l[n].f1) else (t, a)).2 b →
        Tot (fun k => spec_StampNext.l1 k l b ((n + 1 : Nat) : Int) v b) (· = snext (stop (l.drop n) t a).1 (stop (l.drop n) t a).2 b) := by
      rintro v rfl
      rw [hc]
      simp only [stop, List.foldl_cons]
      refine (ih (n + 1) _ _ (by omega) ?_)
      split
      · simp only; rw [sok_iff]; rename_i g; rw [sless_iff] at g; omega
      · exact ht
    refine Tot.let_ _ (Tot.ite (fun g => next _ ?_) (fun g => Tot.ite (fun g' => next _ ?_) (fun g' => next _ ?_)))
    all_goals (rw [sless_iff] at g; by_cases g2 : sless t a l[n].f0 l[n].f1 = true)
    all_goals first | rw [if_pos g2] | rw [if_neg g2]
    all_goals (rw [sless_iff] at g2; simp only; unfold up at *; omega)
theorem spec_check_loop (b : Int) (hb : 0 ≤ b ∧ b < 16) (l : List St) (hl : l.length ≤ 4096) (d : Nat) : ∀ (n : Nat), n + d = l.length → (∀ s ∈ l.take n, sfit s = true) →
    Tot (fun k => spec_StampNext.l0 k l b (n : Int) 1 b) (· = if l.all sfit = true then snext (stop l 0 0).1 (stop l 0 0).2 b else (0, 0, 4)) := by
  induction d with
  | zero =>
    intro n hn hf
    rw [List.take_of_length_le (by omega)] at hf
    refine Tot.step (fun k => by rw [spec_StampNext.l0]) (Tot.neg (by omega) ?_)
    have h := spec_less_loop b hb l hl hf l.length 0 0 0 (by omega) (.inl ⟨rfl, rfl⟩)
    have e : up 0 0 b = 1 := by simp [up]
    rw [e, List.drop_zero] at h
    rw [if_pos (List.all_eq_true.2 hf)]
    exact h
  | succ d ih =>
    intro n hn hf
    have hlt : n < l.length := by omega
    refine Tot.step (fun k => by rw [spec_StampNext.l0]) (Tot.pos (by omega) (Tot.pos (by omega) ?_))
    rw [rdS_nat hlt, spec_ok]
    have hw : wrap64 ((n : Int) + 1) = ((n + 1 : Nat) : Int) := by rw [w64] <;> omega
    rw [hw]
    have more : sfit l[n] = true → ∀ s ∈ l.take (n + 1), sfit s = true := by
      intro h s hs
      rw [List.take_succ_eq_append_getElem hlt, List.mem_append, List.mem_singleton] at hs
      rcases hs with hs | rfl
      · exact hf s hs
      · exact h
    refine Tot.let_ _ (Tot.ite (fun g => ih (n + 1) (by omega) (more (by simp [sfit, g]))) (fun g => ?_))
    rw [spec_none]
    refine Tot.let_ _ (Tot.ite (fun g' => ih (n + 1) (by omega) (more (by simp [sfit, g']))) (fun g' => Tot.ret _ ?_))
    rw [if_neg]
    intro h
    have := List.all_eq_true.1 h l[n] (List.getElem_mem hlt)
    simp [sfit, g, g'] at this

/-- What both answer. -/
def nextOf (l : List St) (b : Int) : Int × Int × Int :=
  if l.length > 4096 then (0, 0, 2) else if 0 ≤ b ∧ b < 16 then (if l.all sfit = true then snext (stop l 0 0).1 (stop l 0 0).2 b else (0, 0, 4)) else (0, 0, 4)
theorem impl_next (l : List St) (b : Int) : Tot (fun k => impl_StampNext.f k l b) (· = nextOf l b) := by
  unfold impl_StampNext.f nextOf
  rw [impl_actor]
  refine Tot.ite (fun g => Tot.ret _ (by rw [if_pos (by omega)])) (fun g => Tot.let_ _ (Tot.ite (fun h => ?_) (fun h => Tot.ret _ ?_)))
  · rw [if_neg (by omega), if_pos (by simpa using h)]
    have := impl_next_loop b l (by omega) l.length 0 0 0 (by omega) (.inl ⟨rfl, rfl⟩)
    rwa [List.drop_zero] at this
  · rw [if_neg (by omega), if_neg (by simpa using h)]
theorem spec_next (l : List St) (b : Int) : Tot (fun k => spec_StampNext.f k l b) (· = nextOf l b) := by
  have j0 : ∀ v : Bool, l.length ≤ 4096 → (v = false → 0 ≤ b ∧ b < 16) → Tot (fun k => spec_StampNext.j0 k l b v) (· = if v = true then (0, 0, 4) else (if l.all sfit = true then snext (stop l 0 0).1 (stop l 0 0).2 b else (0, 0, 4))) := by
    intro v hl hb
    refine Tot.step (fun k => by rw [spec_StampNext.j0]) (Tot.ite (fun g => Tot.ret _ (by rw [if_pos g])) (fun g => ?_))
    rw [if_neg g]
    exact spec_check_loop b (hb (by simpa using g)) l hl l.length 0 (by omega) (by simp)
  unfold spec_StampNext.f nextOf
  refine Tot.ite (fun g => Tot.ret _ (by rw [if_pos (by omega)])) (fun g => ?_)
  rw [if_neg (by omega)]
  refine Tot.ite (fun h => (j0 true (by omega) (by simp)).mono ?_) (fun h => (j0 (decide (b ≥ 16)) (by omega) ?_).mono ?_)
  · rintro r rfl
    rw [if_pos rfl, if_neg (by omega)]
  · intro k; simp at k; omega
  · rintro r rfl
    by_cases k : b ≥ 16
    · have : ¬ (0 ≤ b ∧ b < 16) := by omega
      rw [if_neg this, decide_eq_true k, if_pos rfl]
    · have : 0 ≤ b ∧ b < 16 := by omega
      rw [if_pos this, decide_eq_false k, if_neg (by decide)]

theorem size_tot {c : List Int} {a s n : Int} (hc : CodeOK c) (hn : 0 ≤ n) : ∃ r, spec_l01Src_size.f c a s n = some r ∧ 0 ≤ r.1 ∧ r.1 ≤ n ∧ r.2 = (a, s) := by
  unfold spec_l01Src_size.f
  have := hc.1
  rw [w64 (x := (c.length : Int) / 12) (by omega) (by omega), w64 (x := 1 + (c.length : Int) / 12) (by omega) (by omega)]
  refine ⟨_, rfl, ?_, ?_, rfl⟩
  · simp only [mn]; split <;> omega
  · simp only [mn]; split <;> omega

theorem drawLess_tot {c : List Int} (hc : CodeOK c) : Tot (fun _ => spec_DrawStampLess.f c) fun _ => True := by
  unfold spec_DrawStampLess.f
  refine Tot.bind (Tot.of (source_tot hc)) ?_
  rintro ⟨c', a, s⟩ ⟨rfl, h⟩
  refine Tot.bind (oddStamp_tot hc h (by omega)) ?_
  rintro ⟨t, u, a1, s1⟩ ⟨-, -, -, -, k⟩
  refine Tot.bind (oddStamp_tot hc k (by omega)) ?_
  rintro ⟨t', u', a2, s2⟩ ⟨-, -, -, -, k'⟩
  exact Tot.ret _ trivial
theorem drawNext_loop {c : List Int} (hc : CodeOK c) (d : Nat) : ∀ (l : List St) (i a s m : Int), (d : Int) = i → i ≤ 100 → (l.length : Int) + i ≤ 200 → Src m a s → m + 6 * i ≤ 1000000 →
    Tot (fun k => spec_DrawStampNext.l0 k l i c a s) fun _ => True := by
  induction d with
  | zero =>
    intro l i a s m hi hi' hl h hm
    refine Tot.step (fun k => by rw [spec_DrawStampNext.l0]) (Tot.neg (by omega) ?_)
    refine Tot.bind (Tot.of (next_tot 6 hc h (by omega))) ?_
    rintro ⟨u, a1, s1⟩ ⟨k0, k1, k2⟩
    refine Tot.bind (Tot.of (next_tot 12 hc k2 (by omega))) ?_
    rintro ⟨v, a2, s2⟩ ⟨l0, l1, l2⟩
    refine Tot.ite (fun g => ?_) (fun g => Tot.ite (fun g' => ?_) (fun g' => Tot.ite (fun g'' => ?_) (fun g'' => Tot.ret _ trivial)))
    · refine Tot.bind (oddStamp_tot hc l2 (by omega)) ?_
      rintro ⟨t, u, a1, s1⟩ -
      exact Tot.pos (by omega) (Tot.ret _ trivial)
    · refine Tot.let_ _ ?_
      refine Tot.bind (Tot.of (next_tot 3 hc l2 (by omega))) ?_
      rintro ⟨x, a3, s3⟩ ⟨j0, j1, j2⟩
      simp only at *
      exact Tot.pos j0 (Tot.pos (by simp; omega) (Tot.ret _ trivial))
    · refine Tot.bind (Tot.of (next_tot 2 hc l2 (by omega))) ?_
      rintro ⟨x, a3, s3⟩ ⟨j0, j1, j2⟩
      exact Tot.pos (by omega) (Tot.ret _ trivial)
  | succ d ih =>
    intro l i a s m hi hi' hl h hm
    refine Tot.step (fun k => by rw [spec_DrawStampNext.l0]) (Tot.pos (by omega) ?_)
    refine Tot.bind (stamp_tot hc h (by omega)) ?_
    rintro ⟨t, u, a1, s1⟩ ⟨-, -, -, -, k⟩
    refine Tot.pos (by omega) ?_
    rw [w64 (x := i - 1) (by omega) (by omega)]
    exact ih _ (i - 1) a1 s1 (m + 6) (by omega) (by omega) (by simp; omega) k (by omega)
theorem drawNext_tot {c : List Int} (hc : CodeOK c) : Tot (fun k => spec_DrawStampNext.f k c) fun _ => True := by
  unfold spec_DrawStampNext.f
  refine Tot.bind (Tot.of (source_tot hc)) ?_
  rintro ⟨c', a, s⟩ ⟨rfl, h⟩
  refine Tot.bind (Tot.of (size_tot hc (n := 9) (by omega))) ?_
  rintro ⟨n, a', s'⟩ ⟨h0, h1, h2⟩
  simp only [Prod.mk.injEq] at h2
  obtain ⟨rfl, rfl⟩ := h2
  simp only at *
  rw [w64 (x := n + 1) (by omega) (by omega)]
  refine Tot.bind (Tot.of (next_tot (n + 1) hc h (by omega))) ?_
  rintro ⟨i, a1, s1⟩ ⟨k0, k1, k2⟩
  simp only at *
  exact drawNext_loop hc i.toNat [] i a1 s1 _ (by omega) (by omega) (by simp; omega) k2 (by omega)
end Go.Proofs.Ytlpdklfijainaaa.Q
