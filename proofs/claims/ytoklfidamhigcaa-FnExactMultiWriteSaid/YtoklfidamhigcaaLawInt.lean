/- What the laws do with numbers in a row, and with operations: copied, compared, marked. -/
import Derived.Test.YtoklfidamhigcaaLawBy
import Derived.Test.YtoklfidamhigcaaOp
namespace Go.Proofs.Ytoklfidamhigcaa.D
open Go.RowKit
set_option maxRecDepth 100000
set_option maxHeartbeats 4000000
set_option linter.unusedVariables false
set_option linter.unusedSimpArgs false

theorem l_toIntS (l : List Int) (hl : l.length ≤ 2 ^ 39) : CallD Try.prog id_laws_toIntS [vN l] [] (.one (.os 0 1 0 l.length)) [.own 1 (l.map inD)] := by
  refine F_laws_toIntS ?_
  try (conv => whnf)
  repeat (first
    | (refine Need.mk ?_ ?_; (focus (omega)); conv => whnf)
    | (refine Pick.mk ?_ ?_ ?_; rotate_left; (focus (first | exact List.length_map _ | exact natlit _ | exact rep_in _)); conv => whnf))
  refine LoopE.mk (fun i : Nat => mk [(0, vN l), (3, .one (.os 8224 1 0 l.length)), (4, vI .i64 i)] [(8224, .own 1 ((over l (List.replicate l.length 0) i).map inD))]) (fun i => i ≤ l.length) (fun i => l.length - i) 0 (by omega) (LeX.of ?_) ?_
  · try (conv => whnf)
    repeat (refine Need.mk ?_ ?_; (focus (first | omega | (simp; done) | rfl)); conv => whnf)
    trivial
  · intro i hi
    try (conv => whnf)
    repeat' (first
      | (refine Need.mk ?_ ?_; (focus (omega)); conv => whnf)
      | (refine Pick.mk ?_ ?_ ?_; rotate_left; (focus (first | exact List.length_map _ | (refine pick_nat _ _ _ ?_; omega))); conv => whnf)
      | (refine SeqJ.thru ?_; conv => whnf)
      | (refine br_dec (fun _ => ?_) (fun _ => ?_) <;> first | (exfalso; omega) | contradiction | conv => whnf)
      | (refine br_not ?_; conv => whnf)
      | (refine br_bne (fun _ => ?_) (fun _ => ?_) <;> first | (exfalso; omega) | contradiction | conv => whnf)
      | (refine br_beq (fun _ => ?_) (fun _ => ?_) <;> first | (exfalso; omega) | contradiction | conv => whnf))
    · refine Pick.mk (inD 0) (by rw [addN_eq, List.getElem?_map, show 0 + (i : Int).toNat = i by omega, over_get (by simp) (by simp; omega)]; simp) ?_
      try (conv => whnf)
      repeat (refine Pick.mk ?_ ?_ ?_; rotate_left; (focus (first | with_reducible exact set_inN _ _ _ _ | (refine wid ?_ ?_ <;> omega))); conv => whnf)
      refine Pick.mk (i + 1) (by constructor <;> first | omega | (simp only []; omega)) (LeX.of ?_)
      try (conv => whnf)
      repeat (refine Need.mk ?_ ?_; (focus (first | omega | (simp; done))); conv => whnf)
      refine Need.mk (by rw [over_set (by simp) (by simp; omega)]) ?_
      try (conv => whnf)
      trivial
    · refine Out.mk false [0, 1, 2, 3, 4] [] ?_
      try (conv => whnf)
      repeat (refine Need.mk ?_ ?_; (focus ((first | exact flat_by _ | exact flat_in _ | exact flat_st _ | exact flat_ts _ | exact flat_bo _ | exact flat_cl rfl))); conv => whnf)
      rw [over_end (by simp) (by simp; omega)]
      exact ⟨rfl, rfl⟩
theorem l_toVector (l : List Int) (hl : l.length ≤ 2 ^ 39) : CallD Try.prog id_laws_toVector [vV l] [] (.agg [.os 0 1 0 l.length]) [.own 1 (l.map inD)] := by
  refine F_laws_toVector ?_
  try (conv => whnf)
  refine Hand.mk [] ?_
  try (conv => whnf)
  refine CallW.d (l_toIntS l hl) ?_
  try (conv => whnf)
  refine Out.mk false [0, 1, 2, 3, 4] [] ?_
  try (conv => whnf)
  repeat (refine Need.mk ?_ ?_; (focus ((first | exact flat_by _ | exact flat_in _ | exact flat_st _ | exact flat_ts _ | exact flat_bo _ | exact flat_cl rfl))); conv => whnf)
  exact ⟨rfl, rfl⟩
theorem l_toStamp (t a : Int) : CallD Try.prog id_laws_toStamp [vSt t a] [] (vSt t a) [] := by
  refine F_laws_toStamp ?_
  try (conv => whnf)
  refine Out.mk true [] [] ?_
  try (conv => whnf)
  exact ⟨rfl, rfl⟩
/-- An operation whose vector lies in a row of its own. -/
abbrev vOw (o : OpV) : SV := .agg [cI o.actor, cI o.seq, cI o.time, .os 0 1 0 o.deps.length, cI o.kind, cI o.obj, cI o.n, cI o.undo, cI o.atT, cI o.atA, cS (bs o.key), cS (bs o.text)]
theorem l_toOp (o : OpV) (hl : o.deps.length ≤ 2 ^ 39) : CallD Try.prog id_laws_toOp [vO o] [] (vOw o) [.own 1 (o.deps.map inD)] := by
  refine F_laws_toOp ?_
  try (conv => whnf)
  refine Hand.mk [] ?_
  try (conv => whnf)
  refine CallW.d (l_toVector o.deps hl) ?_
  try (conv => whnf)
  refine Hand.mk [] ?_
  try (conv => whnf)
  refine CallW.d (l_toStamp o.atT o.atA) ?_
  try (conv => whnf)
  refine Out.mk false [0, 1, 2, 3, 4] [] ?_
  try (conv => whnf)
  repeat (refine Need.mk ?_ ?_; (focus ((first | exact flat_by _ | exact flat_in _ | exact flat_st _ | exact flat_ts _ | exact flat_bo _ | exact flat_cl rfl))); conv => whnf)
  exact ⟨rfl, rfl⟩
theorem vI_ext {a b : Int} (h : a = b) : vI .i64 a = vI .i64 b := by rw [h]
/-- What is left after n more. -/
def szL (left : Int) (n : Nat) : Int := if left < n then -1 else left - n
theorem l_szIntS (l : List Int) (left : Int) (hl : l.length ≤ 9223372036854775807) (h0 : 0 ≤ left) (h1 : left ≤ 2 ^ 40) : CallD Try.prog id_laws_szIntS [vN l, vI .i64 left] [] (vI .i64 (szL left l.length)) [] := by
  refine F_laws_szIntS ?_
  try (conv => whnf)
  repeat' (first
    | (refine Pick.mk ?_ ?_ ?_; rotate_left; (focus (first | exact List.length_map _ | (refine wid ?_ ?_ <;> omega))); conv => whnf)
    | (refine br_dec (fun _ => ?_) (fun _ => ?_) <;> first | (exfalso; omega) | contradiction | conv => whnf)
    | (refine br_not ?_; conv => whnf)
    | (refine br_bne (fun _ => ?_) (fun _ => ?_) <;> first | (exfalso; omega) | contradiction | conv => whnf)
    | (refine br_beq (fun _ => ?_) (fun _ => ?_) <;> first | (exfalso; omega) | contradiction | conv => whnf))
  all_goals
    refine Out.mk true [] [] ?_
    try (conv => whnf)
  all_goals first
    | exact ⟨by rw [szL, if_pos (by omega)], rfl⟩
    | exact ⟨by rw [szL, if_neg (by omega)], rfl⟩
theorem l_szVector (l : List Int) (left : Int) (hl : l.length ≤ 9223372036854775807) (h0 : 0 ≤ left) (h1 : left ≤ 2 ^ 40) : CallD Try.prog id_laws_szVector [vV l, vI .i64 left] [] (vI .i64 (szL left l.length)) [] := by
  refine F_laws_szVector ?_
  try (conv => whnf)
  refine Hand.mk [] ?_
  try (conv => whnf)
  refine CallW.d (l_szIntS l left hl h0 h1) ?_
  try (conv => whnf)
  by_cases h : left < l.length
  · rw [show szL left l.length = -1 from if_pos h]
    try (conv => whnf)
    repeat' (first
      | (refine br_dec (fun _ => ?_) (fun _ => ?_) <;> first | (exfalso; omega) | contradiction | conv => whnf)
      | (refine br_not ?_; conv => whnf)
      | (refine br_bne (fun _ => ?_) (fun _ => ?_) <;> first | (exfalso; omega) | contradiction | conv => whnf)
      | (refine br_beq (fun _ => ?_) (fun _ => ?_) <;> first | (exfalso; omega) | contradiction | conv => whnf))
    refine Out.mk true [] [] ?_
    try (conv => whnf)
    exact ⟨rfl, rfl⟩
  · rw [show szL left l.length = left - l.length from if_neg h]
    try (conv => whnf)
    repeat' (first
      | (refine br_dec (fun _ => ?_) (fun _ => ?_) <;> first | (exfalso; omega) | contradiction | conv => whnf)
      | (refine br_not ?_; conv => whnf)
      | (refine br_bne (fun _ => ?_) (fun _ => ?_) <;> first | (exfalso; omega) | contradiction | conv => whnf)
      | (refine br_beq (fun _ => ?_) (fun _ => ?_) <;> first | (exfalso; omega) | contradiction | conv => whnf))
    refine Out.mk true [] [] ?_
    try (conv => whnf)
    exact ⟨rfl, rfl⟩
theorem l_szOp (o : OpV) (left : Int) (hl : o.deps.length ≤ 9223372036854775807) (hk : o.key.length ≤ 9223372036854775807) (ht : o.text.length ≤ 9223372036854775807) (h0 : 0 ≤ left) (h1 : left ≤ 2 ^ 40) :
    CallD Try.prog id_laws_szOp [vO o, vI .i64 left] [] (vI .i64 (szL left (o.deps.length + o.key.length + o.text.length))) [] := by
  refine F_laws_szOp ?_
  try (conv => whnf)
  refine Hand.mk [] ?_
  try (conv => whnf)
  refine CallW.d (l_szVector o.deps left hl h0 h1) ?_
  try (conv => whnf)
  by_cases h : left < o.deps.length
  · rw [show szL left o.deps.length = -1 from if_pos h]
    try (conv => whnf)
    repeat' (first
      | (refine br_dec (fun _ => ?_) (fun _ => ?_) <;> first | (exfalso; omega) | contradiction | conv => whnf)
      | (refine br_not ?_; conv => whnf)
      | (refine br_bne (fun _ => ?_) (fun _ => ?_) <;> first | (exfalso; omega) | contradiction | conv => whnf)
      | (refine br_beq (fun _ => ?_) (fun _ => ?_) <;> first | (exfalso; omega) | contradiction | conv => whnf))
    refine Out.mk true [] [] ?_
    try (conv => whnf)
    exact ⟨by rw [szL, if_pos (by omega)], rfl⟩
  · rw [show szL left o.deps.length = left - o.deps.length from if_neg h]
    try (conv => whnf)
    repeat' (first
      | (refine Pick.mk ?_ ?_ ?_; rotate_left; (focus (first | exact size_bs _ | (refine wid ?_ ?_ <;> omega))); conv => whnf)
      | (refine br_dec (fun _ => ?_) (fun _ => ?_) <;> first | (exfalso; omega) | contradiction | conv => whnf)
      | (refine br_not ?_; conv => whnf)
      | (refine br_bne (fun _ => ?_) (fun _ => ?_) <;> first | (exfalso; omega) | contradiction | conv => whnf)
      | (refine br_beq (fun _ => ?_) (fun _ => ?_) <;> first | (exfalso; omega) | contradiction | conv => whnf))
    all_goals
      refine Out.mk true [] [] ?_
      try (conv => whnf)
    all_goals first
      | exact ⟨by rw [szL, if_pos (by omega)], rfl⟩
      | exact ⟨by rw [szL, if_neg (by omega)]; exact vI_ext (by push_cast; omega), rfl⟩
theorem l_eqIntS (a b : List Int) (ha : a.length ≤ 2 ^ 39) (hb : b.length ≤ 2 ^ 39) : CallD Try.prog id_laws_eqIntS [vN a, vN b] [] (vB (decide (a = b))) [] := by
  refine F_laws_eqIntS ?_
  try (conv => whnf)
  repeat' (first
    | (refine Pick.mk ?_ ?_ ?_; rotate_left; (focus (exact List.length_map _)); conv => whnf)
    | (refine br_dec (fun _ => ?_) (fun _ => ?_) <;> first | (exfalso; omega) | contradiction | conv => whnf)
    | (refine br_not ?_; conv => whnf)
    | (refine br_bne (fun _ => ?_) (fun _ => ?_) <;> first | (exfalso; omega) | contradiction | conv => whnf)
    | (refine br_beq (fun _ => ?_) (fun _ => ?_) <;> first | (exfalso; omega) | contradiction | conv => whnf))
  · refine LoopE.mk (fun i : Nat => mk [(0, vN a), (1, vN b), (5, vI .i64 i)] []) (fun i => i ≤ a.length ∧ a.take i = b.take i) (fun i => a.length - i) 0 (by simp) (LeX.of ?_) ?_
    · try (conv => whnf)
      repeat (refine Need.mk ?_ ?_; (focus (first | omega | (simp; done))); conv => whnf)
      trivial
    · rintro i ⟨hi, he⟩
      try (conv => whnf)
      repeat' (first
        | (refine Pick.mk ?_ ?_ ?_; rotate_left; (focus (first | exact List.length_map _ | (refine wid ?_ ?_ <;> omega) | (refine pick_nat _ _ _ ?_; omega))); conv => whnf)
        | (refine SeqJ.thru ?_; conv => whnf)
        | (refine br_dec (fun _ => ?_) (fun _ => ?_) <;> first | (exfalso; omega) | contradiction | conv => whnf)
        | (refine br_not ?_; conv => whnf)
        | (refine br_bne (fun _ => ?_) (fun _ => ?_) <;> first | (exfalso; omega) | contradiction | conv => whnf)
        | (refine br_beq (fun _ => ?_) (fun _ => ?_) <;> first | (exfalso; omega) | contradiction | conv => whnf))
      · rename_i g1 g2
        refine Pick.mk (i + 1) ⟨⟨by omega, take_eq_step (by omega) (by omega) he (by omega)⟩, by omega⟩ (LeX.of ?_)
        try (conv => whnf)
        repeat (refine Need.mk ?_ ?_; (focus (first | omega | (simp; done))); conv => whnf)
        trivial
      · rename_i g1 g2
        refine Out.mk true [] [] ?_
        try (conv => whnf)
        have : a ≠ b := by rintro rfl; exact g2 rfl
        simp [this]; exact ⟨trivial⟩
      · refine Out.mk true [] [] ?_
        try (conv => whnf)
        have : a = b := by rw [List.take_of_length_le (by omega), List.take_of_length_le (by omega)] at he; exact he
        simp [this]; exact ⟨trivial⟩
  · refine Out.mk true [] [] ?_
    try (conv => whnf)
    have : a ≠ b := by rintro rfl; omega
    simp [this]; exact ⟨trivial⟩
/-- The marks from a number on, as numbers. -/
def markIs (k : Int) (n : Nat) : List Int := (List.range n).map fun (i : Nat) => k + i
@[simp] theorem markIs_length (k : Int) (n : Nat) : (markIs k n).length = n := by simp [markIs]
theorem markIs_get (k : Int) {n i : Nat} (h : i < n) : (markIs k n)[i]'(by simpa using h) = k + i := by simp [markIs]
theorem l_markIntS (a : List Int) (k : Int) (ha : a.length ≤ 2 ^ 39) (h0 : 0 ≤ k) (h1 : k ≤ 2 ^ 60) :
    CallMD Try.prog id_laws_markIntS [.one (.os 0 1 0 a.length), vI .i64 k] [.own 1 (a.map inD)] [] (vI .i64 (k + a.length)) [.own 1 ((markIs k a.length).map inD)] := by
  refine F_laws_markIntS ?_
  try (conv => whnf)
  refine LoopE.mk (fun i : Nat => mk [(0, .one (.os 0 1 0 a.length)), (1, vI .i64 (k + i)), (5, vI .i64 i)] [(0, .own 1 ((over (markIs k a.length) a i).map inD))]) (fun i => i ≤ a.length) (fun i => a.length - i) 0 (by omega) (LeX.of ?_) ?_
  · try (conv => whnf)
    repeat (refine Need.mk ?_ ?_; (focus (first | omega | rfl)); conv => whnf)
    trivial
  · intro i hi
    try (conv => whnf)
    repeat' (first
      | (refine Need.mk ?_ ?_; (focus (omega)); conv => whnf)
      | (refine SeqJ.thru ?_; conv => whnf)
      | (refine br_dec (fun _ => ?_) (fun _ => ?_) <;> first | (exfalso; omega) | contradiction | conv => whnf)
      | (refine br_not ?_; conv => whnf)
      | (refine br_bne (fun _ => ?_) (fun _ => ?_) <;> first | (exfalso; omega) | contradiction | conv => whnf)
      | (refine br_beq (fun _ => ?_) (fun _ => ?_) <;> first | (exfalso; omega) | contradiction | conv => whnf))
    · refine Pick.mk (inD (a[i]'(by omega))) (by rw [addN_eq, List.getElem?_map, show 0 + (i : Int).toNat = i by omega, over_get (by simp) (by omega)]; simp) ?_
      try (conv => whnf)
      repeat (refine Pick.mk ?_ ?_ ?_; rotate_left; (focus (first | with_reducible exact set_inN _ _ _ _ | (refine wid ?_ ?_ <;> omega))); conv => whnf)
      refine Pick.mk (i + 1) (by constructor <;> first | omega | (simp only []; omega)) (LeX.of ?_)
      try (conv => whnf)
      repeat (refine Need.mk ?_ ?_; (focus (omega)); conv => whnf)
      refine Need.mk (by rw [← over_set (by simp) (by omega), markIs_get _ (by omega)]) ?_
      try (conv => whnf)
      trivial
    · refine Out.mk false [0, 1, 2, 3, 4] [] ?_
      try (conv => whnf)
      repeat (refine Need.mk ?_ ?_; (focus ((first | exact flat_by _ | exact flat_in _ | exact flat_st _ | exact flat_ts _ | exact flat_bo _ | exact flat_cl rfl))); conv => whnf)
      rw [over_end (by simp) (by omega)]
      exact ⟨by congr; omega, rfl⟩
theorem l_markVector (a : List Int) (k : Int) (ha : a.length ≤ 2 ^ 39) (h0 : 0 ≤ k) (h1 : k ≤ 2 ^ 60) :
    CallMD Try.prog id_laws_markVector [.agg [.os 0 1 0 a.length], vI .i64 k] [.own 1 (a.map inD)] [] (vI .i64 (k + a.length)) [.own 1 ((markIs k a.length).map inD)] := by
  refine F_laws_markVector ?_
  try (conv => whnf)
  refine Hand.mk [0] ?_
  try (conv => whnf)
  refine CallW.m (l_markIntS a k ha h0 h1) ?_
  try (conv => whnf)
  refine Out.mk false [0, 1, 2, 3, 4] [] ?_
  try (conv => whnf)
  repeat (refine Need.mk ?_ ?_; (focus ((first | exact flat_by _ | exact flat_in _ | exact flat_st _ | exact flat_ts _ | exact flat_bo _ | exact flat_cl rfl))); conv => whnf)
  exact ⟨rfl, rfl⟩
theorem l_markOp (o : OpV) (k : Int) (ha : o.deps.length ≤ 2 ^ 39) (h0 : 0 ≤ k) (h1 : k ≤ 2 ^ 60) :
    CallMD Try.prog id_laws_markOp [vOw o, vI .i64 k] [.own 1 (o.deps.map inD)] [] (vI .i64 (k + o.deps.length)) [.own 1 ((markIs k o.deps.length).map inD)] := by
  refine F_laws_markOp ?_
  try (conv => whnf)
  refine Hand.mk [0] ?_
  try (conv => whnf)
  refine CallW.m (l_markVector o.deps k ha h0 h1) ?_
  try (conv => whnf)
  refine Out.mk false [0, 1, 2, 3, 4] [] ?_
  try (conv => whnf)
  repeat (refine Need.mk ?_ ?_; (focus ((first | exact flat_by _ | exact flat_in _ | exact flat_st _ | exact flat_ts _ | exact flat_bo _ | exact flat_cl rfl))); conv => whnf)
  exact ⟨rfl, rfl⟩
theorem l_eqVector (a : List Int) (ha : a.length ≤ 2 ^ 39) : CallD Try.prog id_laws_eqVector [vV a, vV a] [] (vB true) [] := by
  refine F_laws_eqVector ?_
  try (conv => whnf)
  refine Hand.mk [] ?_
  try (conv => whnf)
  refine CallW.d (l_eqIntS a a ha ha) ?_
  try (conv => whnf)
  try (conv => whnf)
  repeat' (first
    | (refine br_dec (fun _ => ?_) (fun _ => ?_) <;> first | (exfalso; omega) | contradiction | conv => whnf)
    | (refine br_not ?_; conv => whnf)
    | (refine br_bne (fun _ => ?_) (fun _ => ?_) <;> first | (exfalso; omega) | contradiction | conv => whnf)
    | (refine br_beq (fun _ => ?_) (fun _ => ?_) <;> first | (exfalso; omega) | contradiction | conv => whnf))
  refine Out.mk true [] [] ?_
  try (conv => whnf)
  exact ⟨rfl, rfl⟩
theorem l_eqStamp (t a : Int) : CallD Try.prog id_laws_eqStamp [vSt t a, vSt t a] [] (vB true) [] := by
  refine F_laws_eqStamp ?_
  try (conv => whnf)
  repeat' (first
    | (refine br_dec (fun _ => ?_) (fun _ => ?_) <;> first | (exfalso; omega) | contradiction | conv => whnf)
    | (refine br_not ?_; conv => whnf)
    | (refine br_bne (fun _ => ?_) (fun _ => ?_) <;> first | (exfalso; omega) | contradiction | conv => whnf)
    | (refine br_beq (fun _ => ?_) (fun _ => ?_) <;> first | (exfalso; omega) | contradiction | conv => whnf))
  refine Out.mk true [] [] ?_
  try (conv => whnf)
  exact ⟨rfl, rfl⟩
theorem l_eqOp (o : OpV) (ha : o.deps.length ≤ 2 ^ 39) (hk : o.key.length ≤ 2 ^ 39) (ht : o.text.length ≤ 2 ^ 39) : CallD Try.prog id_laws_eqOp [vO o, vO o] [] (vB true) [] := by
  refine F_laws_eqOp ?_
  try (conv => whnf)
  repeat' (first
    | (refine br_dec (fun _ => ?_) (fun _ => ?_) <;> first | (exfalso; omega) | contradiction | conv => whnf)
    | (refine br_not ?_; conv => whnf)
    | (refine br_bne (fun _ => ?_) (fun _ => ?_) <;> first | (exfalso; omega) | contradiction | conv => whnf)
    | (refine br_beq (fun _ => ?_) (fun _ => ?_) <;> first | (exfalso; omega) | contradiction | conv => whnf))
  refine Hand.mk [] ?_
  try (conv => whnf)
  refine CallW.d (l_eqVector o.deps ha) ?_
  try (conv => whnf)
  try (conv => whnf)
  repeat' (first
    | (refine br_dec (fun _ => ?_) (fun _ => ?_) <;> first | (exfalso; omega) | contradiction | conv => whnf)
    | (refine br_not ?_; conv => whnf)
    | (refine br_bne (fun _ => ?_) (fun _ => ?_) <;> first | (exfalso; omega) | contradiction | conv => whnf)
    | (refine br_beq (fun _ => ?_) (fun _ => ?_) <;> first | (exfalso; omega) | contradiction | conv => whnf))
  refine Hand.mk [] ?_
  try (conv => whnf)
  refine CallW.d (l_eqStamp o.atT o.atA) ?_
  try (conv => whnf)
  repeat (refine Pick.mk ?_ ?_ ?_; rotate_left; (focus (exact bs_beq _ _)); conv => whnf)
  try (conv => whnf)
  repeat' (first
    | (refine Pick.mk ?_ ?_ ?_; rotate_left; (focus (exact bs_beq _ _)); conv => whnf)
    | (refine br_dec (fun _ => ?_) (fun _ => ?_) <;> first | (exfalso; omega) | contradiction | conv => whnf)
    | (refine br_not ?_; conv => whnf)
    | (refine br_bne (fun _ => ?_) (fun _ => ?_) <;> first | (exfalso; omega) | contradiction | conv => whnf)
    | (refine br_beq (fun _ => ?_) (fun _ => ?_) <;> first | (exfalso; omega) | contradiction | conv => whnf))
  refine Out.mk true [] [] ?_
  try (conv => whnf)
  exact ⟨rfl, rfl⟩
end Go.Proofs.Ytoklfidamhigcaa.D
