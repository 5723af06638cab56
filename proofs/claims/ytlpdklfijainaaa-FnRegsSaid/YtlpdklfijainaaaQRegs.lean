import Derived.Test.YtlpdklfijainaaaQStamp
import Derived.Test.YtlpdklfijainaaaPx5
import Derived.Test.YtlpdklfijainaaaPx7
import Derived.Test.YtlpdklfijainaaaPx6
import Derived.Test.YtlpdklfijainaaaPx8
/-! Registers: the join is the greater one by stamp and text. -/
namespace Go.Proofs.Ytlpdklfijainaaa.Q
open Go.RowKit Go.Proofs.Ytlpdklfijainaaa.P Go.Proofs.YtlpdklfijainaaaW.PrintWords Go.Proofs.YtlpdklfijainaaaW.PrintLast Go.Proofs.YtlpdklfijainaaaW.PrintMore
set_option linter.unusedVariables false
set_option linter.unusedSimpArgs false

theorem bytesLess_irrefl : ∀ x : List UInt8, Op.bytesLess x x = false
  | [] => rfl
  | a :: x => by simp [Op.bytesLess, bytesLess_irrefl x]
theorem bytesLess_trans : ∀ x y z : List UInt8, Op.bytesLess x y = true → Op.bytesLess y z = true → Op.bytesLess x z = true
  | _, [], _ => by intro h; simp [Op.bytesLess] at h
  | _, _ :: _, [] => by intro _ h; simp [Op.bytesLess] at h
  | [], _ :: _, _ :: _ => by simp [Op.bytesLess]
  | a :: x, b :: y, c :: z => by
    intro h k
    have ih := bytesLess_trans x y z
    simp only [Op.bytesLess, Bool.or_eq_true, decide_eq_true_eq, Bool.and_eq_true, beq_iff_eq] at h k ⊢
    rcases h with h | ⟨h, h'⟩
    · rcases k with k | ⟨k, k'⟩
      · exact .inl (UInt8.lt_trans h k)
      · exact .inl (k ▸ h)
    · rcases k with k | ⟨k, k'⟩
      · exact .inl (h ▸ k)
      · exact .inr ⟨h.trans k, ih h' k'⟩
theorem bytesLess_total : ∀ x y : List UInt8, Op.bytesLess x y = true ∨ x = y ∨ Op.bytesLess y x = true
  | [], [] => .inr (.inl rfl)
  | [], _ :: _ => .inl rfl
  | _ :: _, [] => .inr (.inr rfl)
  | a :: x, b :: y => by
    have ih := bytesLess_total x y
    simp only [Op.bytesLess, Bool.or_eq_true, decide_eq_true_eq, Bool.and_eq_true, beq_iff_eq, List.cons.injEq]
    rcases Nat.lt_trichotomy a.toNat b.toNat with h | h | h
    · exact .inl (.inl (UInt8.lt_iff_toNat_lt.2 h))
    · have h : a = b := UInt8.toNat_inj.1 h
      subst h
      rcases ih with h | h | h
      · exact .inl (.inr ⟨rfl, h⟩)
      · exact .inr (.inl ⟨rfl, h⟩)
      · exact .inr (.inr (.inr ⟨rfl, h⟩))
    · exact .inr (.inr (.inl (UInt8.lt_iff_toNat_lt.2 h)))

/-- A register: time, actor, text. -/
abbrev R3 := Int × Int × ByteArray
def rlt (p q : R3) : Prop := p.1 < q.1 ∨ p.1 = q.1 ∧ (p.2.1 < q.2.1 ∨ p.2.1 = q.2.1 ∧ Op.bytesLess p.2.2.toList q.2.2.toList = true)
def req (p q : R3) : Prop := p.1 = q.1 ∧ p.2.1 = q.2.1 ∧ p.2.2.toList = q.2.2.toList
instance (p q : R3) : Decidable (rlt p q) := by unfold rlt; infer_instance
instance (p q : R3) : Decidable (req p q) := by unfold req; infer_instance
theorem rlt_irrefl {p q : R3} (h : req p q) : ¬ rlt p q := by
  obtain ⟨h1, h2, h3⟩ := h
  rintro (g | ⟨_, g | ⟨_, g⟩⟩)
  · omega
  · omega
  · rw [h3, bytesLess_irrefl] at g; cases g
theorem rlt_trans {p q r : R3} (h : rlt p q) (k : rlt q r) : rlt p r := by
  unfold rlt at *
  rcases h with h | ⟨h, h' | ⟨h', h''⟩⟩ <;> rcases k with k | ⟨k, k' | ⟨k', k''⟩⟩
  all_goals first | (left; omega) | (right; refine ⟨by omega, ?_⟩; first | (left; omega) | (right; exact ⟨by omega, bytesLess_trans _ _ _ h'' k''⟩))
theorem rlt_total (p q : R3) : rlt p q ∨ req p q ∨ rlt q p := by
  unfold rlt req
  rcases Int.lt_trichotomy p.1 q.1 with h | h | h
  · exact .inl (.inl h)
  · rcases Int.lt_trichotomy p.2.1 q.2.1 with k | k | k
    · exact .inl (.inr ⟨h, .inl k⟩)
    · rcases bytesLess_total p.2.2.toList q.2.2.toList with l | l | l
      · exact .inl (.inr ⟨h, .inr ⟨k, l⟩⟩)
      · exact .inr (.inl ⟨h, k, l⟩)
      · exact .inr (.inr (.inr ⟨h.symm, .inr ⟨k.symm, l⟩⟩))
    · exact .inr (.inr (.inr ⟨h.symm, .inl k⟩))
  · exact .inr (.inr (.inl h))
theorem rlt_req {p q r : R3} (h : rlt p q) (k : req q r) : rlt p r := by
  obtain ⟨k1, k2, k3⟩ := k
  unfold rlt at *
  rw [k1, k2, k3] at h
  exact h
theorem req_rlt {p q r : R3} (k : req p q) (h : rlt q r) : rlt p r := by
  obtain ⟨k1, k2, k3⟩ := k
  unfold rlt at *
  rw [← k1, ← k2, ← k3] at h
  exact h
theorem req_symm {p q : R3} (h : req p q) : req q p := ⟨h.1.symm, h.2.1.symm, h.2.2.symm⟩
theorem req_refl (p : R3) : req p p := ⟨rfl, rfl, rfl⟩
theorem req_trans {p q r : R3} (h : req p q) (k : req q r) : req p r := ⟨h.1.trans k.1, h.2.1.trans k.2.1, h.2.2.trans k.2.2⟩

def rmax (p q : R3) : R3 := if rlt p q then q else p
theorem rmax_pos {p q : R3} (h : rlt p q) : rmax p q = q := by unfold rmax; rw [if_pos h]
theorem rmax_neg {p q : R3} (h : ¬ rlt p q) : rmax p q = p := by unfold rmax; rw [if_neg h]
theorem rlt_mk {t a u b : Int} {x y : ByteArray} : rlt (t, a, x) (u, b, y) ↔ (t < u ∨ t = u ∧ a < b) ∨ (t = u ∧ a = b) ∧ Op.bytesLess x.toList y.toList = true := by
  unfold rlt
  simp only
  constructor
  · rintro (h | ⟨h, h' | ⟨h', k⟩⟩)
    · exact .inl (.inl h)
    · exact .inl (.inr ⟨h, h'⟩)
    · exact .inr ⟨⟨h, h'⟩, k⟩
  · rintro ((h | ⟨h, h'⟩) | ⟨⟨h, h'⟩, k⟩)
    · exact .inl h
    · exact .inr ⟨h, .inl h'⟩
    · exact .inr ⟨h, .inr ⟨h', k⟩⟩
theorem rmax_or (p q : R3) : rmax p q = p ∨ rmax p q = q := by unfold rmax; split <;> simp
theorem rmax_comm (p q : R3) : req (rmax p q) (rmax q p) := by
  unfold rmax
  by_cases h : rlt p q
  · rw [if_pos h, if_neg (fun k => rlt_irrefl (req_refl p) (rlt_trans h k))]; exact req_refl _
  · rw [if_neg h]
    by_cases k : rlt q p
    · rw [if_pos k]; exact req_refl _
    · rw [if_neg k]
      rcases rlt_total p q with l | l | l
      · exact absurd l h
      · exact l
      · exact absurd l k
theorem rmax_assoc (p q r : R3) : req (rmax (rmax p q) r) (rmax p (rmax q r)) := by
  unfold rmax
  by_cases h : rlt p q
  · rw [if_pos h]
    by_cases k : rlt q r
    · rw [if_pos k, if_pos (rlt_trans h k)]; exact req_refl _
    · rw [if_neg k, if_pos h]; exact req_refl _
  · rw [if_neg h]
    by_cases k : rlt q r
    · rw [if_pos k]; exact req_refl _
    · rw [if_neg k, if_neg h]
      by_cases l : rlt p r
      · exfalso
        rcases rlt_total q r with m | m | m
        · exact k m
        · exact h (rlt_req l (req_symm m))
        · exact h (rlt_trans l m)
      · rw [if_neg l]; exact req_refl _

def rok (p : R3) : Bool := decide (p.1 = 0 ∧ p.2.1 = 0 ∧ p.2.2.toList = []) || (sok p.1 p.2.1 && decide ((p.2.2.size : Int) ≤ 200))
theorem impl_rok (t a : Int) (x : ByteArray) : impl_regOK.f t a x = some (rok (t, a, x)) := by
  unfold impl_regOK.f rok
  rw [impl_ok]
  by_cases h : t = 0 ∧ a = 0 ∧ x.toList = []
  · rw [if_pos (by simp [h])]; simp [h]
  · rw [if_neg (by simpa [and_assoc] using h)]
    simp only [Option.bind_some, decide_eq_false h, Bool.false_or]
    cases sok t a <;> simp
theorem spec_rok (t a : Int) (x : ByteArray) : spec_l03RegOK.f t a x = some (rok (t, a, x)) := by
  unfold spec_l03RegOK.f rok
  rw [spec_none, Option.bind_some, spec_ok]
  by_cases h : t = 0 ∧ a = 0
  · have h0 : sok t a = false := by rw [h.1, h.2]; decide
    rw [if_pos (by simp [none_, h]), h0]
    simp [h, Bool.beq_eq_decide_eq]
  · rw [if_neg (by simp [none_]; exact fun g g' => h ⟨g, g'⟩)]
    have h' : ¬ (t = 0 ∧ a = 0 ∧ x.toList = []) := fun g => h ⟨g.1, g.2.1⟩
    simp only [Option.bind_some, decide_eq_false h', Bool.false_or]
    cases sok t a <;> simp

/-- What a join answers: the greater one, or the code ErrBad. -/
def rjoin (p q : R3) : Int × Int × ByteArray × Int :=
  if rok p = true ∧ rok q = true then ((rmax p q).1, (rmax p q).2.1, (rmax p q).2.2, 0) else (0, 0, (⟨#[]⟩ : ByteArray), 1)
theorem beq2 {a b c d : Int} : (a == b && (c == d)) = decide (a = b ∧ c = d) := by
  by_cases h : a = b <;> by_cases k : c = d <;> simp [h, k]
theorem impl_rjoin (t a : Int) (x : ByteArray) (u b : Int) (y : ByteArray) : Tot (fun k => impl_RegJoin.f k t a x u b y) (· = rjoin (t, a, x) (u, b, y)) := by
  have last : ∀ v : Bool, Tot (fun k => impl_RegJoin.j1 k v t a x u b y) (· = if v = true then (u, b, y, 0) else (t, a, x, 0)) := fun v =>
    Tot.step (fun k => by rw [impl_RegJoin.j1]) (Tot.ite (fun h => Tot.ret _ (by rw [if_pos h])) (fun h => Tot.ret _ (by rw [if_neg h])))
  have j0 : ∀ v : Bool, Tot (fun k => impl_RegJoin.j0 k v t a x u b y) (· = if v = true then (0, 0, (⟨#[]⟩ : ByteArray), 1) else ((rmax (t, a, x) (u, b, y)).1, (rmax (t, a, x) (u, b, y)).2.1, (rmax (t, a, x) (u, b, y)).2.2, 0)) := by
    intro v
    refine Tot.step (fun k => by rw [impl_RegJoin.j0]) ?_
    refine Tot.ite (fun h => Tot.ret _ (by rw [if_pos h])) (fun h => ?_)
    rw [impl_less]
    refine Tot.let_ _ (Tot.ite (fun g => (last _).mono ?_) (fun g => Tot.ite (fun g' => (last _).mono ?_) (fun g' => (last _).mono ?_)))
    all_goals (rintro r rfl; rw [if_neg h]; simp only [sless_iff] at g)
    · rw [if_pos rfl, rmax_pos (rlt_mk.2 (.inl g))]
    · rw [beq2, decide_eq_true_eq] at g'
      by_cases l : Op.bytesLess x.toList y.toList = true
      · rw [if_pos l, rmax_pos (rlt_mk.2 (.inr ⟨g', l⟩))]
      · rw [if_neg l, rmax_neg (fun k => (rlt_mk.1 k).elim g (fun k => l k.2))]
    · rw [beq2, decide_eq_true_eq] at g'
      rw [if_neg (by simp), rmax_neg (fun k => (rlt_mk.1 k).elim g (fun k => g' k.1))]
  unfold impl_RegJoin.f
  rw [impl_rok, impl_rok]
  refine Tot.let_ _ (Tot.ite (fun h => Tot.let_ _ ((j0 _).mono ?_)) (fun h => (j0 _).mono ?_))
  · rintro r rfl
    unfold rjoin
    cases hq : rok (u, b, y) <;> simp [h, hq]
  · rintro r rfl
    unfold rjoin
    simp [h]
theorem spec_rjoin (t a : Int) (x : ByteArray) (u b : Int) (y : ByteArray) : Tot (fun k => spec_RegJoin.f k t a x u b y) (· = rjoin (t, a, x) (u, b, y)) := by
  have last : ∀ v : Bool, Tot (fun k => spec_RegJoin.j1 k v t a x u b y) (· = if v = true then (u, b, y, 0) else (t, a, x, 0)) := fun v =>
    Tot.step (fun k => by rw [spec_RegJoin.j1]) (Tot.ite (fun h => Tot.ret _ (by rw [if_pos h])) (fun h => Tot.ret _ (by rw [if_neg h])))
  have j0 : ∀ v : Bool, Tot (fun k => spec_RegJoin.j0 k v t a x u b y) (· = if v = true then (0, 0, (⟨#[]⟩ : ByteArray), 1) else ((rmax (t, a, x) (u, b, y)).1, (rmax (t, a, x) (u, b, y)).2.1, (rmax (t, a, x) (u, b, y)).2.2, 0)) := by
    intro v
    refine Tot.step (fun k => by rw [spec_RegJoin.j0]) ?_
    refine Tot.ite (fun h => Tot.ret _ (by rw [if_pos h])) (fun h => ?_)
    rw [spec_less]
    refine Tot.let_ _ (Tot.ite (fun g => (last _).mono ?_) (fun g => Tot.ite (fun g' => (last _).mono ?_) (fun g' => (last _).mono ?_)))
    all_goals (rintro r rfl; rw [if_neg h]; simp only [sless_iff] at g)
    · rw [if_pos rfl, rmax_pos (rlt_mk.2 (.inl g))]
    · rw [beq2, decide_eq_true_eq] at g'
      by_cases l : Op.bytesLess x.toList y.toList = true
      · rw [if_pos l, rmax_pos (rlt_mk.2 (.inr ⟨g', l⟩))]
      · rw [if_neg l, rmax_neg (fun k => (rlt_mk.1 k).elim g (fun k => l k.2))]
    · rw [beq2, decide_eq_true_eq] at g'
      rw [if_neg (by simp), rmax_neg (fun k => (rlt_mk.1 k).elim g (fun k => g' k.1))]
  unfold spec_RegJoin.f
  rw [spec_rok, spec_rok]
  refine Tot.let_ _ (Tot.ite (fun h => Tot.let_ _ ((j0 _).mono ?_)) (fun h => (j0 _).mono ?_))
  · rintro r rfl
    unfold rjoin
    cases hq : rok (u, b, y) <;> simp [h, hq]
  · rintro r rfl
    unfold rjoin
    simp [h]

theorem reg_tot {c : List Int} {m a s : Int} (hc : CodeOK c) (h : Src m a s) (hm : m < 4611686018427387600) :
    Tot (fun _ => spec_l01Src_reg.f c a s) fun r => Src (m + 30) r.2.2.2.1 r.2.2.2.2 := by
  unfold spec_l01Src_reg.f
  refine Tot.bind (Tot.of (next_tot 12 hc h (by omega))) ?_
  rintro ⟨t, a', s'⟩ ⟨h0, h1, h2⟩
  simp only at *
  refine Tot.ite (fun g => ?_) (fun g => Tot.ite (fun g' => ?_) (fun g' => Tot.ite (fun g'' => ?_) (fun g'' => Tot.ite (fun g''' => ?_) (fun g''' => ?_))))
  · exact Tot.ret _ (h2.up (by omega) (by omega))
  · exact Tot.ret _ (h2.up (by omega) (by omega))
  · refine Tot.bind (oddStamp_tot hc h2 (by omega)) ?_
    rintro ⟨u, v, a1, s1⟩ ⟨-, -, -, -, k⟩
    refine Tot.bind (word_tot hc k (by omega)) ?_
    rintro ⟨x, a2, s2⟩ ⟨-, k'⟩
    exact Tot.ret _ (k'.up (by omega) (by omega))
  · refine Tot.bind (stamp_tot hc h2 (by omega)) ?_
    rintro ⟨u, v, a1, s1⟩ ⟨-, -, -, -, k⟩
    refine Tot.bind (Tot.of (next_tot 2 hc k (by omega))) ?_
    rintro ⟨x, a2, s2⟩ ⟨l0, l1, l2⟩
    simp only at *
    rw [w64 (by omega) (by omega)]
    exact Tot.pos (by omega) (Tot.pos (by omega) (Tot.ret _ (l2.up (by omega) (by omega))))
  · refine Tot.bind (stamp_tot hc h2 (by omega)) ?_
    rintro ⟨u, v, a1, s1⟩ ⟨-, -, -, -, k⟩
    refine Tot.bind (word_tot hc k (by omega)) ?_
    rintro ⟨x, a2, s2⟩ ⟨-, k'⟩
    exact Tot.ret _ (k'.up (by omega) (by omega))
theorem drawReg_tot {c : List Int} (hc : CodeOK c) : Tot (fun _ => spec_DrawRegJoin.f c) fun _ => True := by
  unfold spec_DrawRegJoin.f
  refine Tot.bind (Tot.of (source_tot hc)) ?_
  rintro ⟨c', a, s⟩ ⟨rfl, h⟩
  refine Tot.bind (reg_tot hc h (by omega)) ?_
  rintro ⟨t, u, x, a1, s1⟩ k
  refine Tot.bind (reg_tot hc k (by omega)) ?_
  rintro ⟨t', u', x', a2, s2⟩ k'
  exact Tot.ret _ trivial
end Go.Proofs.Ytlpdklfijainaaa.Q
