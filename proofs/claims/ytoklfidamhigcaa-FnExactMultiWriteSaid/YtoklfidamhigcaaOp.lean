/- Operations: as values, and in order. -/
import Derived.Test.YtoklfidamhigcaaVec
import Derived.Test.YtoklfidamhigcaaPRun
namespace Go.Proofs.Ytoklfidamhigcaa.D
open Go.RowKit
set_option maxRecDepth 100000
set_option maxHeartbeats 4000000
set_option linter.unusedVariables false
set_option linter.unusedSimpArgs false

structure OpV where
  actor : Int
  seq : Int
  time : Int
  deps : List Int
  kind : Int
  obj : Int
  n : Int
  undo : Int
  atT : Int
  atA : Int
  key : List UInt8
  text : List UInt8
def oD (o : OpV) : List DV := [.sc (.int .i64 o.actor), .sc (.int .i64 o.seq), .sc (.int .i64 o.time), .sl (o.deps.map inD), .sc (.int .i64 o.kind), .sc (.int .i64 o.obj), .sc (.int .i64 o.n), .sc (.int .i64 o.undo), .sc (.int .i64 o.atT), .sc (.int .i64 o.atA), .sc (.string (bs o.key)), .sc (.string (bs o.text))]
abbrev opC (o : OpV) : List CV := [cI o.actor, cI o.seq, cI o.time, cN o.deps, cI o.kind, cI o.obj, cI o.n, cI o.undo, cI o.atT, cI o.atA, cS (bs o.key), cS (bs o.text)]
abbrev vO (o : OpV) : SV := .agg (opC o)
abbrev timeOk (t : Int) : Prop := 1 ≤ t ∧ t ≤ 1000000000000
abbrev actOk (a : Int) : Prop := 0 ≤ a ∧ a < 16
def stOk (t a : Int) : Prop := timeOk t ∧ actOk a
instance (t a : Int) : Decidable (stOk t a) := by unfold stOk; infer_instance
/-- One stamp below another. -/
def stLt (t a u b : Int) : Prop := t < u ∨ t = u ∧ a < b
instance (t a u b : Int) : Decidable (stLt t a u b) := by unfold stLt; infer_instance
abbrev noSt (t a : Int) : Prop := t = 0 ∧ a = 0
def chOk (n : Int) : Prop := 0 ≤ n ∧ n ≤ 1114111 ∧ (n < 55296 ∨ n > 57343)
instance (n : Int) : Decidable (chOk n) := by unfold chOk; infer_instance
def kindOk (o : OpV) : Prop := (o.kind = 1 ∧ o.n = 0 ∧ noSt o.atT o.atA) ∨ (o.kind = 2 ∧ (o.key = [] ∧ o.text = []) ∧ chOk o.n) ∨ (o.kind = 3 ∧ (o.key = [] ∧ o.text = []) ∧ o.n = 0 ∧ ¬ noSt o.atT o.atA) ∨ (o.kind = 4 ∧ (o.key = [] ∧ o.text = []) ∧ noSt o.atT o.atA)
instance (o : OpV) : Decidable (kindOk o) := by unfold kindOk; infer_instance
/-- An operation in order. -/
structure OpOk (o : OpV) : Prop where
  st : stOk o.time o.actor
  seq : 1 ≤ o.seq ∧ o.seq ≤ 1000000000000
  vec : VecOk o.deps
  own : o.deps.getD o.actor.toNat 0 = o.seq - 1
  obj : 1 ≤ o.obj ∧ o.obj ≤ 100
  num : -1000000000000 ≤ o.n ∧ o.n ≤ 1000000000000
  undo : 0 ≤ o.undo ∧ o.undo < o.seq
  words : o.key.length ≤ 200 ∧ o.text.length ≤ 200
  at_ : noSt o.atT o.atA ∨ stOk o.atT o.atA ∧ stLt o.atT o.atA o.time o.actor
  kind : kindOk o
theorem opOk_iff (o : OpV) : OpOk o ↔ (stOk o.time o.actor ∧ (1 ≤ o.seq ∧ o.seq ≤ 1000000000000) ∧ VecOk o.deps ∧ o.deps.getD o.actor.toNat 0 = o.seq - 1 ∧ (1 ≤ o.obj ∧ o.obj ≤ 100) ∧ (-1000000000000 ≤ o.n ∧ o.n ≤ 1000000000000) ∧ (0 ≤ o.undo ∧ o.undo < o.seq) ∧ (o.key.length ≤ 200 ∧ o.text.length ≤ 200) ∧ (noSt o.atT o.atA ∨ stOk o.atT o.atA ∧ stLt o.atT o.atA o.time o.actor) ∧ kindOk o) :=
  ⟨fun h => ⟨h.st, h.seq, h.vec, h.own, h.obj, h.num, h.undo, h.words, h.at_, h.kind⟩, fun ⟨a, b, c, d, e, f, g, i, j, k⟩ => ⟨a, b, c, d, e, f, g, i, j, k⟩⟩
instance (o : OpV) : Decidable (OpOk o) := decidable_of_iff _ (opOk_iff o).symm
abbrev vSt (t a : Int) : SV := .agg [cI t, cI a]
theorem dec_t {p : Prop} [Decidable p] (h : p) : vB true = vB (decide p) := by rw [decide_eq_true h]
theorem dec_f {p : Prop} [Decidable p] (h : ¬ p) : vB false = vB (decide p) := by rw [decide_eq_false h]
theorem dec_b {p q : Prop} [Decidable p] [Decidable q] (h : p ↔ q) : vB (decide p) = vB (decide q) := by rw [show decide p = decide q from by simp [h]]
theorem i_isActor' (a : Int) : CallD Try.prog id_impl_isActor [vI .i64 a] [] (vB (decide (actOk a))) [] := by
  refine F_impl_isActor ?_
  try (conv => whnf)
  repeat' (first
    | (refine br_dec (fun _ => ?_) (fun _ => ?_) <;> first | (exfalso; omega) | contradiction | conv => whnf)
    | (refine br_not ?_; conv => whnf)
    | (refine br_bne (fun _ => ?_) (fun _ => ?_) <;> first | (exfalso; omega) | contradiction | conv => whnf)
    | (refine br_beq (fun _ => ?_) (fun _ => ?_) <;> first | (exfalso; omega) | contradiction | conv => whnf))
  all_goals
    refine Out.mk true [] [] ?_
    try (conv => whnf)
  all_goals first
    | exact ⟨dec_t (by omega), rfl⟩
    | exact ⟨dec_f (by omega), rfl⟩
    | exact ⟨dec_b (by omega), rfl⟩
theorem i_StampOK (t a : Int) : CallD Try.prog id_impl_StampOK [vSt t a] [] (vB (decide (stOk t a))) [] := by
  refine F_impl_StampOK ?_
  try (conv => whnf)
  repeat' (first
    | (refine br_dec (fun _ => ?_) (fun _ => ?_) <;> first | (exfalso; omega) | contradiction | conv => whnf)
    | (refine br_not ?_; conv => whnf)
    | (refine br_bne (fun _ => ?_) (fun _ => ?_) <;> first | (exfalso; omega) | contradiction | conv => whnf)
    | (refine br_beq (fun _ => ?_) (fun _ => ?_) <;> first | (exfalso; omega) | contradiction | conv => whnf))
  · refine Hand.mk [] ?_
    try (conv => whnf)
    refine CallW.d (i_isActor' a) ?_
    try (conv => whnf)
    refine Out.mk true [] [] ?_
    try (conv => whnf)
    exact ⟨dec_b (by simp only [stOk]; omega), rfl⟩
  all_goals
    refine Out.mk true [] [] ?_
    try (conv => whnf)
  all_goals exact ⟨dec_f (by simp only [stOk]; omega), rfl⟩
theorem s_StampOK (t a : Int) : CallD Try.prog id_spec_StampOK [vSt t a] [] (vB (decide (stOk t a))) [] := by
  refine F_spec_StampOK ?_
  try (conv => whnf)
  repeat' (first
    | (refine br_dec (fun _ => ?_) (fun _ => ?_) <;> first | (exfalso; omega) | contradiction | conv => whnf)
    | (refine br_not ?_; conv => whnf)
    | (refine br_bne (fun _ => ?_) (fun _ => ?_) <;> first | (exfalso; omega) | contradiction | conv => whnf)
    | (refine br_beq (fun _ => ?_) (fun _ => ?_) <;> first | (exfalso; omega) | contradiction | conv => whnf))
  all_goals
    refine Out.mk true [] [] ?_
    try (conv => whnf)
  all_goals first
    | exact ⟨dec_t (by simp only [stOk]; omega), rfl⟩
    | exact ⟨dec_f (by simp only [stOk]; omega), rfl⟩
    | exact ⟨dec_b (by simp only [stOk]; omega), rfl⟩
theorem i_StampLess (t a u b : Int) : CallD Try.prog id_impl_StampLess [vSt t a, vSt u b] [] (vB (decide (stLt t a u b))) [] := by
  refine F_impl_StampLess ?_
  try (conv => whnf)
  repeat' (first
    | (refine br_dec (fun _ => ?_) (fun _ => ?_) <;> first | (exfalso; omega) | contradiction | conv => whnf)
    | (refine br_not ?_; conv => whnf)
    | (refine br_bne (fun _ => ?_) (fun _ => ?_) <;> first | (exfalso; omega) | contradiction | conv => whnf)
    | (refine br_beq (fun _ => ?_) (fun _ => ?_) <;> first | (exfalso; omega) | contradiction | conv => whnf))
  all_goals
    refine Out.mk true [] [] ?_
    try (conv => whnf)
  all_goals first
    | exact ⟨dec_t (by simp only [stLt]; omega), rfl⟩
    | exact ⟨dec_f (by simp only [stLt]; omega), rfl⟩
    | exact ⟨dec_b (by simp only [stLt]; omega), rfl⟩
theorem s_StampLess (t a u b : Int) : CallD Try.prog id_spec_StampLess [vSt t a, vSt u b] [] (vB (decide (stLt t a u b))) [] := by
  refine F_spec_StampLess ?_
  try (conv => whnf)
  repeat' (first
    | (refine br_dec (fun _ => ?_) (fun _ => ?_) <;> first | (exfalso; omega) | contradiction | conv => whnf)
    | (refine br_not ?_; conv => whnf)
    | (refine br_bne (fun _ => ?_) (fun _ => ?_) <;> first | (exfalso; omega) | contradiction | conv => whnf)
    | (refine br_beq (fun _ => ?_) (fun _ => ?_) <;> first | (exfalso; omega) | contradiction | conv => whnf))
  all_goals
    refine Out.mk true [] [] ?_
    try (conv => whnf)
  all_goals first
    | exact ⟨dec_t (by simp only [stLt]; omega), rfl⟩
    | exact ⟨dec_f (by simp only [stLt]; omega), rfl⟩
    | exact ⟨dec_b (by simp only [stLt]; omega), rfl⟩
theorem s_l02None (t a : Int) : CallD Try.prog id_spec_l02None [vSt t a] [] (vB (decide (noSt t a))) [] := by
  refine F_spec_l02None ?_
  try (conv => whnf)
  repeat' (first
    | (refine br_dec (fun _ => ?_) (fun _ => ?_) <;> first | (exfalso; omega) | contradiction | conv => whnf)
    | (refine br_not ?_; conv => whnf)
    | (refine br_bne (fun _ => ?_) (fun _ => ?_) <;> first | (exfalso; omega) | contradiction | conv => whnf)
    | (refine br_beq (fun _ => ?_) (fun _ => ?_) <;> first | (exfalso; omega) | contradiction | conv => whnf))
  all_goals
    refine Out.mk true [] [] ?_
    try (conv => whnf)
  all_goals first
    | exact ⟨dec_t (by omega), rfl⟩
    | exact ⟨dec_f (by omega), rfl⟩
    | exact ⟨by rw [show (a == 0) = decide (noSt t a) from by by_cases h : a = 0 <;> simp [*]], rfl⟩
theorem i_charOK (n : Int) : CallD Try.prog id_impl_charOK [vI .i64 n] [] (vB (decide (chOk n))) [] := by
  refine F_impl_charOK ?_
  try (conv => whnf)
  repeat' (first
    | (refine br_dec (fun _ => ?_) (fun _ => ?_) <;> first | (exfalso; omega) | contradiction | conv => whnf)
    | (refine br_not ?_; conv => whnf)
    | (refine br_bne (fun _ => ?_) (fun _ => ?_) <;> first | (exfalso; omega) | contradiction | conv => whnf)
    | (refine br_beq (fun _ => ?_) (fun _ => ?_) <;> first | (exfalso; omega) | contradiction | conv => whnf))
  all_goals
    refine Out.mk true [] [] ?_
    try (conv => whnf)
  all_goals first
    | exact ⟨dec_t (by simp only [chOk]; omega), rfl⟩
    | exact ⟨dec_f (by simp only [chOk]; omega), rfl⟩
    | exact ⟨dec_b (by simp only [chOk]; omega), rfl⟩
theorem s_l04Char (n : Int) : CallD Try.prog id_spec_l04Char [vI .i64 n] [] (vB (decide (chOk n))) [] := by
  refine F_spec_l04Char ?_
  try (conv => whnf)
  repeat' (first
    | (refine br_dec (fun _ => ?_) (fun _ => ?_) <;> first | (exfalso; omega) | contradiction | conv => whnf)
    | (refine br_not ?_; conv => whnf)
    | (refine br_bne (fun _ => ?_) (fun _ => ?_) <;> first | (exfalso; omega) | contradiction | conv => whnf)
    | (refine br_beq (fun _ => ?_) (fun _ => ?_) <;> first | (exfalso; omega) | contradiction | conv => whnf))
  all_goals
    refine Out.mk true [] [] ?_
    try (conv => whnf)
  all_goals first
    | exact ⟨dec_t (by simp only [chOk]; omega), rfl⟩
    | exact ⟨dec_f (by simp only [chOk]; omega), rfl⟩
    | exact ⟨dec_b (by simp only [chOk]; omega), rfl⟩
theorem i_stamp (o : OpV) : CallD Try.prog id_impl_Op_stamp [vO o] [] (vSt o.time o.actor) [] := by
  refine F_impl_Op_stamp ?_
  try (conv => whnf)
  refine Out.mk true [] [] ?_
  try (conv => whnf)
  exact ⟨rfl, rfl⟩
theorem s_l08Stamp (o : OpV) : CallD Try.prog id_spec_l08Stamp [vO o] [] (vSt o.time o.actor) [] := by
  refine F_spec_l08Stamp ?_
  try (conv => whnf)
  refine Out.mk true [] [] ?_
  try (conv => whnf)
  exact ⟨rfl, rfl⟩
end Go.Proofs.Ytoklfidamhigcaa.D
