/- What the laws do with bytes: copied, compared, marked. -/
import Derived.Test.YtoklfidamhigcaaW
import Derived.Test.YtoklfidamhigcaaH
namespace Go.Proofs.Ytoklfidamhigcaa.D
open Go.RowKit
set_option maxRecDepth 100000
set_option linter.unusedVariables false
set_option linter.unusedSimpArgs false

theorem l_toByteS (l : List UInt8) (hl : l.length ≤ 2 ^ 39) : CallD Try.prog id_laws_toByteS [vY l] [] (.one (.os 0 1 0 l.length)) [.own 1 (l.map byD)] := by
  refine F_laws_toByteS ?_
  try (conv => whnf)
  repeat (first
    | (refine Need.mk ?_ ?_; (focus (omega)); conv => whnf)
    | (refine Pick.mk ?_ ?_ ?_; rotate_left; (focus (first | exact List.length_map _ | exact natlit _ | exact rep_by _)); conv => whnf))
  refine LoopE.mk (fun i : Nat => mk [(0, vY l), (3, .one (.os 8224 1 0 l.length)), (4, vI .i64 i)] [(8224, .own 1 ((over l (List.replicate l.length 0) i).map byD))]) (fun i => i ≤ l.length) (fun i => l.length - i) 0 (by omega) (LeX.of ?_) ?_
  · try (conv => whnf)
    repeat (refine Need.mk ?_ ?_; (focus (first | omega | (simp; done) | rfl)); conv => whnf)
    trivial
  · intro i hi
    try (conv => whnf)
    repeat' (first
      | (refine Need.mk ?_ ?_; (focus (omega)); conv => whnf)
      | (refine Pick.mk ?_ ?_ ?_; rotate_left; (focus (first | exact List.length_map _ | (refine pick_nat _ _ _ ?_; omega))); conv => whnf)
      | (refine SeqJ.thru ?_; conv => whnf)
      | (refine br_dec (fun _ => ?_) (fun _ => ?_) <;> first | (exfalso; omega) | contradiction | conv => whnf)
      | (refine br_not ?_; conv => whnf)
      | (refine br_bne (fun _ => ?_) (fun _ => ?_) <;> first | (exfalso; omega) | contradiction | conv => whnf)
      | (refine br_beq (fun _ => ?_) (fun _ => ?_) <;> first | (exfalso; omega) | contradiction | conv => whnf))
    · refine Pick.mk (byD 0) (by rw [addN_eq, List.getElem?_map, show 0 + (i : Int).toNat = i by omega, over_get (by simp) (by simp; omega)]; simp) ?_
      try (conv => whnf)
      repeat (refine Pick.mk ?_ ?_ ?_; rotate_left; (focus (first | with_reducible exact set_byN _ _ _ _ | (refine wid ?_ ?_ <;> omega))); conv => whnf)
      refine Pick.mk (i + 1) (by constructor <;> first | omega | (simp only []; omega)) (LeX.of ?_)
      try (conv => whnf)
      repeat (refine Need.mk ?_ ?_; (focus (first | omega | (simp; done))); conv => whnf)
      refine Need.mk (by rw [over_set (by simp) (by simp; omega)]) ?_
      try (conv => whnf)
      trivial
    · refine Out.mk false [0, 1, 2, 3, 4] [] ?_
      try (conv => whnf)
      repeat (refine Need.mk ?_ ?_; (focus ((first | exact flat_by _ | exact flat_in _ | exact flat_st _ | exact flat_ts _ | exact flat_bo _ | exact flat_cl rfl))); conv => whnf)
      rw [over_end (by simp) (by simp; omega)]
      exact ⟨rfl, rfl⟩
theorem take_eq_step {α : Type} {a b : List α} {i : Nat} (ha : i < a.length) (hb : i < b.length) (h : a.take i = b.take i) (h2 : a[i] = b[i]) : a.take (i + 1) = b.take (i + 1) := by
  rw [List.take_succ_eq_append_getElem ha, List.take_succ_eq_append_getElem hb, h, h2]
theorem by_ne {a b : UInt8} (h : ¬ (IntKind.u8, (a.toNat : Int)) = (IntKind.u8, (b.toNat : Int))) : a ≠ b := by rintro rfl; exact h rfl
theorem l_eqByteS (a b : List UInt8) (ha : a.length ≤ 2 ^ 39) (hb : b.length ≤ 2 ^ 39) : CallD Try.prog id_laws_eqByteS [vY a, vY b] [] (vB (decide (a = b))) [] := by
  refine F_laws_eqByteS ?_
  try (conv => whnf)
  repeat' (first
    | (refine Pick.mk ?_ ?_ ?_; rotate_left; (focus (exact List.length_map _)); conv => whnf)
    | (refine br_dec (fun _ => ?_) (fun _ => ?_) <;> first | (exfalso; omega) | contradiction | conv => whnf)
    | (refine br_not ?_; conv => whnf)
    | (refine br_bne (fun _ => ?_) (fun _ => ?_) <;> first | (exfalso; omega) | contradiction | conv => whnf)
    | (refine br_beq (fun _ => ?_) (fun _ => ?_) <;> first | (exfalso; omega) | contradiction | conv => whnf))
  · refine LoopE.mk (fun i : Nat => mk [(0, vY a), (1, vY b), (5, vI .i64 i)] []) (fun i => i ≤ a.length ∧ a.take i = b.take i) (fun i => a.length - i) 0 (by simp) (LeX.of ?_) ?_
    · try (conv => whnf)
      repeat (refine Need.mk ?_ ?_; (focus (first | omega | (simp; done))); conv => whnf)
      trivial
    · rintro i ⟨hi, he⟩
      try (conv => whnf)
      repeat' (first
        | (refine Pick.mk ?_ ?_ ?_; rotate_left; (focus (first | exact List.length_map _ | (refine wid ?_ ?_ <;> omega) | (refine pick_nat _ _ _ ?_; omega))); conv => whnf)
        | (refine SeqJ.thru ?_; conv => whnf)
        | (refine br_dec (fun _ => ?_) (fun _ => ?_) <;> first | (exfalso; omega) | contradiction | conv => whnf)
        | (refine br_not ?_; conv => whnf)
        | (refine br_bne (fun _ => ?_) (fun _ => ?_) <;> first | (exfalso; omega) | contradiction | conv => whnf)
        | (refine br_beq (fun _ => ?_) (fun _ => ?_) <;> first | (exfalso; omega) | contradiction | conv => whnf))
      · rename_i g1 g2
        have h1 : i < a.length := by omega
        have h2 : i < b.length := by omega
        have h3 : a[i] = b[i] := UInt8.toNat.inj (by omega)
        refine Pick.mk (i + 1) ⟨⟨by omega, take_eq_step h1 h2 he h3⟩, by omega⟩ (LeX.of ?_)
        try (conv => whnf)
        repeat (refine Need.mk ?_ ?_; (focus (first | omega | (simp; done))); conv => whnf)
        trivial
      · rename_i g1 g2
        refine Out.mk true [] [] ?_
        try (conv => whnf)
        have : a ≠ b := by rintro rfl; exact g2 rfl
        simp [this]; exact ⟨trivial⟩
      · rename_i g1
        refine Out.mk true [] [] ?_
        try (conv => whnf)
        have : a = b := by rw [List.take_of_length_le (by omega), List.take_of_length_le (by omega)] at he; exact he
        simp [this]; exact ⟨trivial⟩
  · refine Out.mk true [] [] ?_
    try (conv => whnf)
    have : a ≠ b := by rintro rfl; omega
    simp [this]; exact ⟨trivial⟩
/-- The marks from a number on. -/
def marks (k : Int) (n : Nat) : List UInt8 := (List.range n).map fun (i : Nat) => u8 (k + i)
@[simp] theorem marks_length (k : Int) (n : Nat) : (marks k n).length = n := by simp [marks]
theorem marks_get (k : Int) {n i : Nat} (h : i < n) : (marks k n)[i]'(by simpa using h) = u8 (k + i) := by simp [marks]
theorem l_markByteS (a : List UInt8) (k : Int) (ha : a.length ≤ 2 ^ 39) (h0 : 0 ≤ k) (h1 : k ≤ 2 ^ 60) :
    CallMD Try.prog id_laws_markByteS [.one (.os 0 1 0 a.length), vI .i64 k] [.own 1 (a.map byD)] [] (vI .i64 (k + a.length)) [.own 1 ((marks k a.length).map byD)] := by
  refine F_laws_markByteS ?_
  try (conv => whnf)
  refine LoopE.mk (fun i : Nat => mk [(0, .one (.os 0 1 0 a.length)), (1, vI .i64 (k + i)), (5, vI .i64 i)] [(0, .own 1 ((over (marks k a.length) a i).map byD))]) (fun i => i ≤ a.length) (fun i => a.length - i) 0 (by omega) (LeX.of ?_) ?_
  · try (conv => whnf)
    repeat (refine Need.mk ?_ ?_; (focus (first | omega | rfl)); conv => whnf)
    trivial
  · intro i hi
    try (conv => whnf)
    repeat' (first
      | (refine Need.mk ?_ ?_; (focus (omega)); conv => whnf)
      | (refine Pick.mk ?_ ?_ ?_; rotate_left; (focus (exact wbyte _)); conv => whnf)
      | (refine SeqJ.thru ?_; conv => whnf)
      | (refine br_dec (fun _ => ?_) (fun _ => ?_) <;> first | (exfalso; omega) | contradiction | conv => whnf)
      | (refine br_not ?_; conv => whnf)
      | (refine br_bne (fun _ => ?_) (fun _ => ?_) <;> first | (exfalso; omega) | contradiction | conv => whnf)
      | (refine br_beq (fun _ => ?_) (fun _ => ?_) <;> first | (exfalso; omega) | contradiction | conv => whnf))
    · skip
      refine Pick.mk (byD (a[i]'(by omega))) (by rw [addN_eq, List.getElem?_map, show 0 + (i : Int).toNat = i by omega, over_get (by simp) (by omega)]; simp) ?_
      try (conv => whnf)
      repeat (refine Pick.mk ?_ ?_ ?_; rotate_left; (focus (first | with_reducible exact set_byN _ _ _ _ | (refine wid ?_ ?_ <;> omega))); conv => whnf)
      refine Pick.mk (i + 1) (by constructor <;> first | omega | (simp only []; omega)) (LeX.of ?_)
      try (conv => whnf)
      repeat (refine Need.mk ?_ ?_; (focus (omega)); conv => whnf)
      refine Need.mk (by rw [← over_set (by simp) (by omega), marks_get _ (by omega)]) ?_
      try (conv => whnf)
      trivial
    · refine Out.mk false [0, 1, 2, 3, 4] [] ?_
      try (conv => whnf)
      repeat (refine Need.mk ?_ ?_; (focus ((first | exact flat_by _ | exact flat_in _ | exact flat_st _ | exact flat_ts _ | exact flat_bo _ | exact flat_cl rfl))); conv => whnf)
      rw [over_end (by simp) (by omega)]
      exact ⟨by congr; omega, rfl⟩
theorem l_heldByteS (n : Nat) (k : Int) (ha : n ≤ 2 ^ 39) (h0 : 0 ≤ k) (h1 : k ≤ 2 ^ 60) :
    CallD Try.prog id_laws_heldByteS [vY (marks k n), vI .i64 k] [] (vI .i64 (k + n)) [] := by
  refine F_laws_heldByteS ?_
  have hm : (marks k n).length = n := by simp
  try (conv => whnf)
  refine LoopE.mk (fun i : Nat => mk [(0, vY (marks k n)), (1, vI .i64 (k + i)), (5, vI .i64 i)] []) (fun i => i ≤ n) (fun i => n - i) 0 (by omega) (LeX.of ?_) ?_
  · try (conv => whnf)
    repeat (refine Need.mk ?_ ?_; (focus (first | omega | (simp; done))); conv => whnf)
    trivial
  · intro i hi
    try (conv => whnf)
    repeat' (first
      | (refine Pick.mk ?_ ?_ ?_; rotate_left; (focus (first | exact List.length_map _ | (refine wid ?_ ?_ <;> omega) | exact wbyte _ | (refine pick_nat _ _ _ ?_; omega))); conv => whnf)
      | (refine SeqJ.thru ?_; conv => whnf)
      | (refine br_dec (fun _ => ?_) (fun _ => ?_) <;> first | (exfalso; omega) | contradiction | conv => whnf)
      | (refine br_not ?_; conv => whnf)
      | (refine br_bne (fun _ => ?_) (fun _ => ?_) <;> first | (exfalso; omega) | contradiction | conv => whnf)
      | (refine br_beq (fun _ => ?_) (fun _ => ?_) <;> first | (exfalso; omega) | contradiction | conv => whnf))
    · refine Pick.mk (i + 1) (by constructor <;> first | omega | (simp only []; omega)) (LeX.of ?_)
      try (conv => whnf)
      repeat (refine Need.mk ?_ ?_; (focus (first | omega | (simp; done))); conv => whnf)
      trivial
    · rename_i g1 g2
      exfalso
      rw [marks_get k (by omega)] at g2
      simp at g2
    · refine Out.mk true [] [] ?_
      try (conv => whnf)
      exact ⟨by congr; omega, rfl⟩
end Go.Proofs.Ytoklfidamhigcaa.D
