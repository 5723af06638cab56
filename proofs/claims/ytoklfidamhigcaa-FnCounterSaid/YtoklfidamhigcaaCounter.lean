/- Counters: joined, told, added to, by both; drawn; the law. -/
import Derived.Test.YtoklfidamhigcaaVecD
namespace Go.Proofs.Ytoklfidamhigcaa.D
open Go.RowKit
set_option maxRecDepth 100000
set_option linter.unusedVariables false
set_option linter.unusedSimpArgs false
abbrev vC (p m : List Int) : SV := .agg [cN p, cN m]
def CntOk (p m : List Int) : Prop := VecOk p ∧ VecOk m
instance (p m : List Int) : Decidable (CntOk p m) := by unfold CntOk; infer_instance
theorem s_l03CounterOK (p m : List Int) : CallD Try.prog id_spec_l03CounterOK [vC p m] [] (vB (decide (CntOk p m))) [] := by
  refine F_spec_l03CounterOK ?_
  try (conv => whnf)
  refine Hand.mk [] ?_
  try (conv => whnf)
  refine CallW.d (s_VecOK p) ?_
  try (conv => whnf)
  try (conv => whnf)
  repeat' (first
    | (refine br_dec (fun _ => ?_) (fun _ => ?_) <;> first | (exfalso; omega) | contradiction | conv => whnf)
    | (refine br_not ?_; conv => whnf)
    | (refine br_bne (fun _ => ?_) (fun _ => ?_) <;> first | (exfalso; omega) | contradiction | conv => whnf)
    | (refine br_beq (fun _ => ?_) (fun _ => ?_) <;> first | (exfalso; omega) | contradiction | conv => whnf))
  · refine Hand.mk [] ?_
    try (conv => whnf)
    refine CallW.d (s_VecOK m) ?_
    try (conv => whnf)
    refine Out.mk true [] [] ?_
    try (conv => whnf)
    have h : VecOk p := by assumption
    exact ⟨by simp [CntOk, h], rfl⟩
  · refine Out.mk true [] [] ?_
    try (conv => whnf)
    have h : ¬ VecOk p := by assumption
    exact ⟨by simp [CntOk, h], rfl⟩
theorem i_counterOK (p m : List Int) : CallD Try.prog id_impl_counterOK [vC p m] [] (vB (decide (CntOk p m))) [] := by
  refine F_impl_counterOK ?_
  try (conv => whnf)
  refine Hand.mk [] ?_
  try (conv => whnf)
  refine CallW.d (i_VecOK p) ?_
  try (conv => whnf)
  try (conv => whnf)
  repeat' (first
    | (refine br_dec (fun _ => ?_) (fun _ => ?_) <;> first | (exfalso; omega) | contradiction | conv => whnf)
    | (refine br_not ?_; conv => whnf)
    | (refine br_bne (fun _ => ?_) (fun _ => ?_) <;> first | (exfalso; omega) | contradiction | conv => whnf)
    | (refine br_beq (fun _ => ?_) (fun _ => ?_) <;> first | (exfalso; omega) | contradiction | conv => whnf))
  · refine Hand.mk [] ?_
    try (conv => whnf)
    refine CallW.d (i_VecOK m) ?_
    try (conv => whnf)
    refine Out.mk true [] [] ?_
    try (conv => whnf)
    have h : VecOk p := by assumption
    exact ⟨by simp [CntOk, h], rfl⟩
  · refine Out.mk true [] [] ?_
    try (conv => whnf)
    have h : ¬ VecOk p := by assumption
    exact ⟨by simp [CntOk, h], rfl⟩
/-- What joining gives. -/
def jC (p m q n : List Int) : Int := if CntOk p m ∧ CntOk q n then 0 else 1
def jV (p m q n a b : List Int) : List Int := if CntOk p m ∧ CntOk q n then vmax a b else []
theorem vmax_len {a b : List Int} (ha : a.length = 16) (hb : b.length = 16) : (vmax a b).length = 16 := by simp [vmax, ha, hb]
theorem jC_1 {p m q n : List Int} (h : ¬ (CntOk p m ∧ CntOk q n)) : jC p m q n = 1 := if_neg h
theorem jC_0 {p m q n : List Int} (h : CntOk p m ∧ CntOk q n) : jC p m q n = 0 := if_pos h
theorem jV_1 {p m q n a b : List Int} (h : ¬ (CntOk p m ∧ CntOk q n)) : jV p m q n a b = [] := if_neg h
theorem jV_0 {p m q n a b : List Int} (h : CntOk p m ∧ CntOk q n) : jV p m q n a b = vmax a b := if_pos h
theorem s_CounterJoin (p m q n : List Int) : CallD Try.prog id_spec_CounterJoin [vC p m, vC q n] [] (.tup [(true, [.os 0 1 0 (jV p m q n p q).length, .os 1 1 0 (jV p m q n m n).length]), (false, [cI (jC p m q n)])]) [.own 1 ((jV p m q n p q).map inD), .own 1 ((jV p m q n m n).map inD)] := by
  refine F_spec_CounterJoin ?_
  try (conv => whnf)
  refine Hand.mk [] ?_
  try (conv => whnf)
  refine CallW.d (s_l03CounterOK p m) ?_
  try (conv => whnf)
  try (conv => whnf)
  repeat' (first
    | (refine br_dec (fun _ => ?_) (fun _ => ?_) <;> first | (exfalso; omega) | contradiction | conv => whnf)
    | (refine br_not ?_; conv => whnf)
    | (refine br_bne (fun _ => ?_) (fun _ => ?_) <;> first | (exfalso; omega) | contradiction | conv => whnf)
    | (refine br_beq (fun _ => ?_) (fun _ => ?_) <;> first | (exfalso; omega) | contradiction | conv => whnf))
  · refine Hand.mk [] ?_
    try (conv => whnf)
    refine CallW.d (s_l03CounterOK q n) ?_
    try (conv => whnf)
    try (conv => whnf)
    repeat' (first
      | (refine br_dec (fun _ => ?_) (fun _ => ?_) <;> first | (exfalso; omega) | contradiction | conv => whnf)
      | (refine br_not ?_; conv => whnf)
      | (refine br_bne (fun _ => ?_) (fun _ => ?_) <;> first | (exfalso; omega) | contradiction | conv => whnf)
      | (refine br_beq (fun _ => ?_) (fun _ => ?_) <;> first | (exfalso; omega) | contradiction | conv => whnf))
    · have h : CntOk p m ∧ CntOk q n := ⟨by assumption, by assumption⟩
      refine Hand.mk [] ?_
      try (conv => whnf)
      refine CallW.d (s_l02Join p q h.1.1.1 h.2.1.1) ?_
      try (conv => whnf)
      repeat (refine Need.mk ?_ ?_; (focus (((conv => whnf); (repeat (refine Need.mk (by first | rfl | omega | (simp; done)) ?_; conv => whnf)); exact Done.mk trivial))); conv => whnf)
      refine Hand.mk [] ?_
      try (conv => whnf)
      refine CallW.d (s_l02Join m n h.1.2.1 h.2.2.1) ?_
      try (conv => whnf)
      refine Out.mk false [0, 1, 2, 3, 4] [] ?_
      try (conv => whnf)
      repeat (refine Need.mk ?_ ?_; (focus ((first | exact flat_by _ | exact flat_in _ | exact flat_st _ | exact flat_ts _ | exact flat_bo _ | exact flat_cl rfl))); conv => whnf)
      rw [jV_0 h, jV_0 h, jC_0 h, vmax_len h.1.1.1 h.2.1.1, vmax_len h.1.2.1 h.2.2.1]
      exact ⟨rfl, rfl⟩
    · have h : ¬ CntOk q n := by assumption
      refine Out.mk false [0, 1, 2, 3, 4] [(0, 1), (1, 1)] ?_
      try (conv => whnf)
      repeat (refine Need.mk ?_ ?_; (focus ((first | exact flat_by _ | exact flat_in _ | exact flat_st _ | exact flat_ts _ | exact flat_bo _ | exact flat_cl rfl))); conv => whnf)
      rw [jV_1 (fun x => h x.2), jV_1 (fun x => h x.2), jC_1 (fun x => h x.2)]
      exact ⟨rfl, rfl⟩
  · have h : ¬ CntOk p m := by assumption
    refine Out.mk false [0, 1, 2, 3, 4] [(0, 1), (1, 1)] ?_
    try (conv => whnf)
    repeat (refine Need.mk ?_ ?_; (focus ((first | exact flat_by _ | exact flat_in _ | exact flat_st _ | exact flat_ts _ | exact flat_bo _ | exact flat_cl rfl))); conv => whnf)
    rw [jV_1 (fun x => h x.1), jV_1 (fun x => h x.1), jC_1 (fun x => h x.1)]
    exact ⟨rfl, rfl⟩
theorem i_CounterJoin (p m q n : List Int) : CallD Try.prog id_impl_CounterJoin [vC p m, vC q n] [] (.tup [(true, [.os 0 1 0 (jV p m q n p q).length, .os 1 1 0 (jV p m q n m n).length]), (false, [cI (jC p m q n)])]) [.own 1 ((jV p m q n p q).map inD), .own 1 ((jV p m q n m n).map inD)] := by
  refine F_impl_CounterJoin ?_
  try (conv => whnf)
  refine Hand.mk [] ?_
  try (conv => whnf)
  refine CallW.d (i_counterOK p m) ?_
  try (conv => whnf)
  try (conv => whnf)
  repeat' (first
    | (refine br_dec (fun _ => ?_) (fun _ => ?_) <;> first | (exfalso; omega) | contradiction | conv => whnf)
    | (refine br_not ?_; conv => whnf)
    | (refine br_bne (fun _ => ?_) (fun _ => ?_) <;> first | (exfalso; omega) | contradiction | conv => whnf)
    | (refine br_beq (fun _ => ?_) (fun _ => ?_) <;> first | (exfalso; omega) | contradiction | conv => whnf))
  · refine Hand.mk [] ?_
    try (conv => whnf)
    refine CallW.d (i_counterOK q n) ?_
    try (conv => whnf)
    try (conv => whnf)
    repeat' (first
      | (refine br_dec (fun _ => ?_) (fun _ => ?_) <;> first | (exfalso; omega) | contradiction | conv => whnf)
      | (refine br_not ?_; conv => whnf)
      | (refine br_bne (fun _ => ?_) (fun _ => ?_) <;> first | (exfalso; omega) | contradiction | conv => whnf)
      | (refine br_beq (fun _ => ?_) (fun _ => ?_) <;> first | (exfalso; omega) | contradiction | conv => whnf))
    · have h : CntOk p m ∧ CntOk q n := ⟨by assumption, by assumption⟩
      refine Hand.mk [] ?_
      try (conv => whnf)
      refine CallW.d (i_vecJoin p q h.1.1.1 h.2.1.1) ?_
      try (conv => whnf)
      repeat (refine Need.mk ?_ ?_; (focus (((conv => whnf); (repeat (refine Need.mk (by first | rfl | omega | (simp; done)) ?_; conv => whnf)); exact Done.mk trivial))); conv => whnf)
      refine Hand.mk [] ?_
      try (conv => whnf)
      refine CallW.d (i_vecJoin m n h.1.2.1 h.2.2.1) ?_
      try (conv => whnf)
      refine Out.mk false [0, 1, 2, 3, 4] [] ?_
      try (conv => whnf)
      repeat (refine Need.mk ?_ ?_; (focus ((first | exact flat_by _ | exact flat_in _ | exact flat_st _ | exact flat_ts _ | exact flat_bo _ | exact flat_cl rfl))); conv => whnf)
      rw [jV_0 h, jV_0 h, jC_0 h, vmax_len h.1.1.1 h.2.1.1, vmax_len h.1.2.1 h.2.2.1]
      exact ⟨rfl, rfl⟩
    · have h : ¬ CntOk q n := by assumption
      refine Out.mk false [0, 1, 2, 3, 4] [(0, 1), (1, 1)] ?_
      try (conv => whnf)
      repeat (refine Need.mk ?_ ?_; (focus ((first | exact flat_by _ | exact flat_in _ | exact flat_st _ | exact flat_ts _ | exact flat_bo _ | exact flat_cl rfl))); conv => whnf)
      rw [jV_1 (fun x => h x.2), jV_1 (fun x => h x.2), jC_1 (fun x => h x.2)]
      exact ⟨rfl, rfl⟩
  · have h : ¬ CntOk p m := by assumption
    refine Out.mk false [0, 1, 2, 3, 4] [(0, 1), (1, 1)] ?_
    try (conv => whnf)
    repeat (refine Need.mk ?_ ?_; (focus ((first | exact flat_by _ | exact flat_in _ | exact flat_st _ | exact flat_ts _ | exact flat_bo _ | exact flat_cl rfl))); conv => whnf)
    rw [jV_1 (fun x => h x.1), jV_1 (fun x => h x.1), jC_1 (fun x => h x.1)]
    exact ⟨rfl, rfl⟩
/-- A counter's value. -/
def cval (p m : List Int) : Int := p.sum - m.sum
theorem sum_take {l : List Int} {i : Nat} (h : i < l.length) : (l.take (i + 1)).sum = (l.take i).sum + l[i] := by
  rw [List.take_succ_eq_append_getElem h, List.sum_append]; simp
theorem sum_bound {l : List Int} (h : ∀ c ∈ l, cntOk c) : 0 ≤ l.sum ∧ l.sum ≤ 1000000000000 * l.length := by
  induction l with
  | nil => simp
  | cons x l ih =>
    have h1 := ih fun c hc => h c (by simp [hc])
    have h2 := h x (by simp)
    simp only [List.sum_cons, List.length_cons, cntOk] at *
    omega
theorem VecOk.take {v : List Int} (h : VecOk v) {i : Nat} (hi : i ≤ 16) : 0 ≤ (v.take i).sum ∧ (v.take i).sum ≤ 16000000000000 := by
  have h1 := sum_bound (l := v.take i) fun c hc => h.2 c (List.mem_of_mem_take hc)
  simp only [List.length_take, h.1] at h1
  omega
theorem VecOk.get {v : List Int} (h : VecOk v) {i : Nat} (hi : i < v.length) : 0 ≤ v[i] ∧ v[i] ≤ 1000000000000 := h.2 _ (List.getElem_mem hi)
theorem s_CounterValue (p m : List Int) : CallD Try.prog id_spec_CounterValue [vC p m] [] (.tup [(false, [cI (if CntOk p m then cval p m else 0)]), (false, [cI (if CntOk p m then 0 else 1)])]) [] := by
  refine F_spec_CounterValue ?_
  try (conv => whnf)
  refine Hand.mk [] ?_
  try (conv => whnf)
  refine CallW.d (s_l03CounterOK p m) ?_
  try (conv => whnf)
  try (conv => whnf)
  repeat' (first
    | (refine br_dec (fun _ => ?_) (fun _ => ?_) <;> first | (exfalso; omega) | contradiction | conv => whnf)
    | (refine br_not ?_; conv => whnf)
    | (refine br_bne (fun _ => ?_) (fun _ => ?_) <;> first | (exfalso; omega) | contradiction | conv => whnf)
    | (refine br_beq (fun _ => ?_) (fun _ => ?_) <;> first | (exfalso; omega) | contradiction | conv => whnf))
  · have h : CntOk p m := by assumption
    have hp := h.1.1
    have hm := h.2.1
    refine LoopE.mk (fun i : Nat => mk [(1, .one (.ptr 4096 0)), (4, vI .i64 ((p.take i).sum - (m.take i).sum)), (5, vI .i64 i)] [(4096, .box [cN p, cN m])]) (fun i => i ≤ 16) (fun i => 16 - i) 0 (by omega) (LeX.of ?_) ?_
    · try (conv => whnf)
      repeat (refine Need.mk ?_ ?_; (focus (first | omega | (simp; done))); conv => whnf)
      trivial
    · intro i hi
      have b1 := h.1.take hi
      have b2 := h.2.take hi
      rcases Nat.lt_or_ge i 16 with hlt | hge
      · have c1 := h.1.get (i := i) (by omega)
        have c2 := h.2.get (i := i) (by omega)
        try (conv => whnf)
        repeat' (first
          | (refine Pick.mk ?_ ?_ ?_; rotate_left; (focus (first | (refine wid ?_ ?_ <;> omega) | (refine pick_nat _ _ _ ?_; omega))); conv => whnf)
          | (refine SeqJ.thru ?_; conv => whnf)
          | (refine br_dec (fun _ => ?_) (fun _ => ?_) <;> first | (exfalso; omega) | contradiction | conv => whnf)
          | (refine br_not ?_; conv => whnf)
          | (refine br_bne (fun _ => ?_) (fun _ => ?_) <;> first | (exfalso; omega) | contradiction | conv => whnf)
          | (refine br_beq (fun _ => ?_) (fun _ => ?_) <;> first | (exfalso; omega) | contradiction | conv => whnf))
        refine Pick.mk (i + 1) (by constructor <;> first | omega | (simp only []; omega)) (LeX.of ?_)
        try (conv => whnf)
        refine Need.mk (by have := sum_take (l := p) (i := i) (by omega); have := sum_take (l := m) (i := i) (by omega); omega) ?_
        try (conv => whnf)
        repeat (refine Need.mk ?_ ?_; (focus (first | omega | (simp; done))); conv => whnf)
        trivial
      · try (conv => whnf)
        repeat' (first
          | (refine br_dec (fun _ => ?_) (fun _ => ?_) <;> first | (exfalso; omega) | contradiction | conv => whnf)
          | (refine br_not ?_; conv => whnf)
          | (refine br_bne (fun _ => ?_) (fun _ => ?_) <;> first | (exfalso; omega) | contradiction | conv => whnf)
          | (refine br_beq (fun _ => ?_) (fun _ => ?_) <;> first | (exfalso; omega) | contradiction | conv => whnf))
        refine Out.mk true [] [] ?_
        try (conv => whnf)
        rw [if_pos h, if_pos h, List.take_of_length_le (by omega), List.take_of_length_le (by omega)]
        exact ⟨rfl, rfl⟩
  · have h : ¬ CntOk p m := by assumption
    refine Out.mk true [] [] ?_
    try (conv => whnf)
    rw [if_neg h, if_neg h]
    exact ⟨rfl, rfl⟩
theorem i_CounterValue (p m : List Int) : CallD Try.prog id_impl_CounterValue [vC p m] [] (.tup [(false, [cI (if CntOk p m then cval p m else 0)]), (false, [cI (if CntOk p m then 0 else 1)])]) [] := by
  refine F_impl_CounterValue ?_
  try (conv => whnf)
  refine Hand.mk [] ?_
  try (conv => whnf)
  refine CallW.d (i_counterOK p m) ?_
  try (conv => whnf)
  try (conv => whnf)
  repeat' (first
    | (refine Pick.mk ?_ ?_ ?_; rotate_left; (focus (exact List.length_map _)); conv => whnf)
    | (refine br_dec (fun _ => ?_) (fun _ => ?_) <;> first | (exfalso; omega) | contradiction | conv => whnf)
    | (refine br_not ?_; conv => whnf)
    | (refine br_bne (fun _ => ?_) (fun _ => ?_) <;> first | (exfalso; omega) | contradiction | conv => whnf)
    | (refine br_beq (fun _ => ?_) (fun _ => ?_) <;> first | (exfalso; omega) | contradiction | conv => whnf))
  · have h : CntOk p m := by assumption
    have hp := h.1.1
    have hm := h.2.1
    refine LoopE.mk (fun i : Nat => mk [(1, .one (.ptr 4096 0)), (4, vI .i64 ((p.take i).sum - (m.take i).sum)), (12, vI .i64 16), (13, vI .i64 i)] [(4096, .box [cN p, cN m])]) (fun i => i ≤ 16) (fun i => 16 - i) 0 (by omega) (LeX.of ?_) ?_
    · try (conv => whnf)
      repeat (refine Need.mk ?_ ?_; (focus (first | omega | (simp; done))); conv => whnf)
      trivial
    · intro i hi
      have b1 := h.1.take hi
      have b2 := h.2.take hi
      rcases Nat.lt_or_ge i 16 with hlt | hge
      · have c1 := h.1.get (i := i) (by omega)
        have c2 := h.2.get (i := i) (by omega)
        try (conv => whnf)
        repeat' (first
          | (refine Pick.mk ?_ ?_ ?_; rotate_left; (focus (first | (refine wid ?_ ?_ <;> omega) | (refine pick_nat _ _ _ ?_; omega))); conv => whnf)
          | (refine SeqJ.thru ?_; conv => whnf)
          | (refine br_dec (fun _ => ?_) (fun _ => ?_) <;> first | (exfalso; omega) | contradiction | conv => whnf)
          | (refine br_not ?_; conv => whnf)
          | (refine br_bne (fun _ => ?_) (fun _ => ?_) <;> first | (exfalso; omega) | contradiction | conv => whnf)
          | (refine br_beq (fun _ => ?_) (fun _ => ?_) <;> first | (exfalso; omega) | contradiction | conv => whnf))
        refine Pick.mk (i + 1) (by constructor <;> first | omega | (simp only []; omega)) (LeX.of ?_)
        try (conv => whnf)
        refine Need.mk (by have := sum_take (l := p) (i := i) (by omega); have := sum_take (l := m) (i := i) (by omega); omega) ?_
        try (conv => whnf)
        repeat (refine Need.mk ?_ ?_; (focus (first | omega | (simp; done))); conv => whnf)
        trivial
      · try (conv => whnf)
        repeat' (first
          | (refine SeqJ.thru ?_; conv => whnf)
          | (refine br_dec (fun _ => ?_) (fun _ => ?_) <;> first | (exfalso; omega) | contradiction | conv => whnf)
          | (refine br_not ?_; conv => whnf)
          | (refine br_bne (fun _ => ?_) (fun _ => ?_) <;> first | (exfalso; omega) | contradiction | conv => whnf)
          | (refine br_beq (fun _ => ?_) (fun _ => ?_) <;> first | (exfalso; omega) | contradiction | conv => whnf))
        refine Out.mk true [] [] ?_
        try (conv => whnf)
        rw [if_pos h, if_pos h, List.take_of_length_le (by omega), List.take_of_length_le (by omega)]
        exact ⟨rfl, rfl⟩
  · have h : ¬ CntOk p m := by assumption
    refine Out.mk true [] [] ?_
    try (conv => whnf)
    rw [if_neg h, if_neg h]
    exact ⟨rfl, rfl⟩
theorem i_isActor (a : Int) : CallD Try.prog id_impl_isActor [vI .i64 a] [] (vB (decide (0 ≤ a ∧ a < 16))) [] := by
  refine F_impl_isActor ?_
  try (conv => whnf)
  repeat' (first
    | (refine br_dec (fun _ => ?_) (fun _ => ?_) <;> first | (exfalso; omega) | contradiction | conv => whnf)
    | (refine br_not ?_; conv => whnf)
    | (refine br_bne (fun _ => ?_) (fun _ => ?_) <;> first | (exfalso; omega) | contradiction | conv => whnf)
    | (refine br_beq (fun _ => ?_) (fun _ => ?_) <;> first | (exfalso; omega) | contradiction | conv => whnf))
  · refine Out.mk true [] [] ?_
    try (conv => whnf)
    exact ⟨by simp; omega, rfl⟩
  · refine Out.mk true [] [] ?_
    try (conv => whnf)
    exact ⟨by simp; omega, rfl⟩
/-- The code of adding. -/
def aC (p m : List Int) (a n : Int) : Int :=
  if ¬ CntOk p m then 1 else if a < 0 ∨ 16 ≤ a ∨ n < -1000000000000 ∨ n > 1000000000000 then 4
  else if (if 0 ≤ n then p.getD a.toNat 0 + n else m.getD a.toNat 0 - n) > 1000000000000 then 11 else 0
def aP (p m : List Int) (a n : Int) : List Int := if aC p m a n = 0 then (if 0 ≤ n then p.set a.toNat (p.getD a.toNat 0 + n) else p) else []
def aM (p m : List Int) (a n : Int) : List Int := if aC p m a n = 0 then (if 0 ≤ n then m else m.set a.toNat (m.getD a.toNat 0 - n)) else []
abbrev aR (p m : List Int) (a n : Int) : SV := .tup [(true, [.os 0 1 0 (aP p m a n).length, .os 1 1 0 (aM p m a n).length]), (false, [cI (aC p m a n)])]
theorem getD_at {l : List Int} {k : Nat} (h : k < l.length) : l.getD k 0 = l[k] := by simp [List.getD, h]
theorem aC_0 {p m : List Int} {a n : Int} (h : CntOk p m) (h1 : 0 ≤ a) (h2 : a < 16) (h3 : -1000000000000 ≤ n) (h4 : n ≤ 1000000000000) (h5 : (if 0 ≤ n then p.getD a.toNat 0 + n else m.getD a.toNat 0 - n) ≤ 1000000000000) : aC p m a n = 0 := by
  rw [aC, if_neg (by simp [h]), if_neg (by omega), if_neg (by omega)]
theorem aC_11 {p m : List Int} {a n : Int} (h : CntOk p m) (h1 : 0 ≤ a) (h2 : a < 16) (h3 : -1000000000000 ≤ n) (h4 : n ≤ 1000000000000) (h5 : (if 0 ≤ n then p.getD a.toNat 0 + n else m.getD a.toNat 0 - n) > 1000000000000) : aC p m a n = 11 := by
  rw [aC, if_neg (by simp [h]), if_neg (by omega), if_pos h5]
theorem aC_4 {p m : List Int} {a n : Int} (h : CntOk p m) (h1 : a < 0 ∨ 16 ≤ a ∨ n < -1000000000000 ∨ n > 1000000000000) : aC p m a n = 4 := by
  rw [aC, if_neg (by simp [h]), if_pos h1]
theorem aErr {p m : List Int} {a n c : Int} (hc : aC p m a n = c) (h0 : c ≠ 0) : SV.tup [(true, [.os 0 1 0 0, .os 1 1 0 0]), (false, [cI c])] = aR p m a n ∧ [Row.own 1 [], Row.own 1 []] = [Row.own 1 ((aP p m a n).map inD), Row.own 1 ((aM p m a n).map inD)] := by
  subst hc
  rw [aR, aP, aM, if_neg h0, if_neg h0]
  exact ⟨rfl, rfl⟩
theorem aGood {p m P M : List Int} {a n : Int} {lp lm : Nat} (hc : aC p m a n = 0) (hP : aP p m a n = P) (hM : aM p m a n = M) (h1 : P.length = lp) (h2 : M.length = lm) : SV.tup [(true, [.os 0 1 0 lp, .os 1 1 0 lm]), (false, [cI 0])] = aR p m a n ∧ [Row.own 1 (P.map inD), Row.own 1 (M.map inD)] = [Row.own 1 ((aP p m a n).map inD), Row.own 1 ((aM p m a n).map inD)] := by
  rw [aR, hP, hM, hc, h1, h2]
  exact ⟨rfl, rfl⟩
theorem i_CounterAdd (p m : List Int) (a n : Int) : CallD Try.prog id_impl_CounterAdd [vC p m, vI .i64 a, vI .i64 n] [] (aR p m a n) [.own 1 ((aP p m a n).map inD), .own 1 ((aM p m a n).map inD)] := by
  refine F_impl_CounterAdd ?_
  try (conv => whnf)
  refine Hand.mk [] ?_
  try (conv => whnf)
  refine CallW.d (i_counterOK p m) ?_
  try (conv => whnf)
  try (conv => whnf)
  repeat' (first
    | (refine br_dec (fun _ => ?_) (fun _ => ?_) <;> first | (exfalso; omega) | contradiction | conv => whnf)
    | (refine br_not ?_; conv => whnf)
    | (refine br_bne (fun _ => ?_) (fun _ => ?_) <;> first | (exfalso; omega) | contradiction | conv => whnf)
    | (refine br_beq (fun _ => ?_) (fun _ => ?_) <;> first | (exfalso; omega) | contradiction | conv => whnf))
  · have h : CntOk p m := by assumption
    have hp := h.1.1
    have hm := h.2.1
    refine Hand.mk [] ?_
    try (conv => whnf)
    refine CallW.d (i_isActor a) ?_
    try (conv => whnf)
    by_cases ha : 0 ≤ a ∧ a < 16
    · have c1 := h.1.get (i := a.toNat) (by omega)
      have c2 := h.2.get (i := a.toNat) (by omega)
      try (conv => whnf)
      repeat' (first
        | (refine SeqJ.thru ?_; conv => whnf)
        | (refine br_dec (fun _ => ?_) (fun _ => ?_) <;> first | (exfalso; omega) | contradiction | conv => whnf)
        | (refine br_not ?_; conv => whnf)
        | (refine br_bne (fun _ => ?_) (fun _ => ?_) <;> first | (exfalso; omega) | contradiction | conv => whnf)
        | (refine br_beq (fun _ => ?_) (fun _ => ?_) <;> first | (exfalso; omega) | contradiction | conv => whnf))
      rotate_left 2
      · refine Need.mk ?_ ?_
        · try (conv => whnf)
          refine Hand.mk [] ?_
          try (conv => whnf)
          refine CallW.d (i_vecCopy p (by omega)) ?_
          try (conv => whnf)
          repeat (refine Need.mk ?_ ?_; (focus (((conv => whnf); (repeat (refine Need.mk (by first | rfl | omega | (simp; done)) ?_; conv => whnf)); exact Done.mk trivial))); conv => whnf)
          refine Need.mk ?_ ?_
          all_goals
            try (conv => whnf)
            repeat (refine Need.mk ?_ ?_; (focus (((conv => whnf); (repeat (refine Need.mk (by first | rfl | omega | (simp; done)) ?_; conv => whnf)); exact Done.mk trivial))); conv => whnf)
            refine Hand.mk [] ?_
            try (conv => whnf)
            refine CallW.d (i_vecCopy m (by omega)) ?_
            try (conv => whnf)
            repeat (refine Need.mk ?_ ?_; (focus (((conv => whnf); (repeat (refine Need.mk (by first | rfl | omega | (simp; done)) ?_; conv => whnf)); exact Done.mk trivial))); conv => whnf)
            try (conv => whnf)
            repeat' (first
              | (refine Need.mk ?_ ?_; (focus (omega)); conv => whnf)
              | (refine Pick.mk ?_ ?_ ?_; rotate_left; (focus (first | with_reducible exact set_inI _ _ _ _ | (with_reducible refine get_mapI _ _ _ ?_ ?_ <;> first | omega | (simp; omega)) | (refine wid ?_ ?_ <;> omega))); conv => whnf)
              | (refine br_dec (fun _ => ?_) (fun _ => ?_) <;> first | (exfalso; omega) | contradiction | conv => whnf)
              | (refine br_not ?_; conv => whnf)
              | (refine br_bne (fun _ => ?_) (fun _ => ?_) <;> first | (exfalso; omega) | contradiction | conv => whnf)
              | (refine br_beq (fun _ => ?_) (fun _ => ?_) <;> first | (exfalso; omega) | contradiction | conv => whnf))
            · refine Out.mk false [0, 1, 2, 3, 4] [(0, 1), (1, 1)] ?_
              try (conv => whnf)
              repeat (refine Need.mk ?_ ?_; (focus ((first | exact flat_by _ | exact flat_in _ | exact flat_st _ | exact flat_ts _ | exact flat_bo _ | exact flat_cl rfl))); conv => whnf)
              exact ⟨aErr (aC_11 h ha.1 ha.2 (by omega) (by omega) (by rw [if_neg (by omega), getD_at (by omega)]; omega)) (by omega)⟩
            · refine Out.mk false [0, 1, 2, 3, 4] [] ?_
              try (conv => whnf)
              repeat (refine Need.mk ?_ ?_; (focus ((first | exact flat_by _ | exact flat_in _ | exact flat_st _ | exact flat_ts _ | exact flat_bo _ | exact flat_cl rfl))); conv => whnf)
              have c : aC p m a n = 0 := aC_0 h ha.1 ha.2 (by omega) (by omega) (by rw [if_neg (by omega), getD_at (by omega)]; omega)
              exact ⟨aGood c (by rw [aP, if_pos c, if_neg (by omega)]) (by rw [aM, if_pos c, if_neg (by omega), getD_at (by omega)]; congr 1; omega) (by simp) (by simp)⟩
            · refine Out.mk false [0, 1, 2, 3, 4] [(0, 1), (1, 1)] ?_
              try (conv => whnf)
              repeat (refine Need.mk ?_ ?_; (focus ((first | exact flat_by _ | exact flat_in _ | exact flat_st _ | exact flat_ts _ | exact flat_bo _ | exact flat_cl rfl))); conv => whnf)
              exact ⟨aErr (aC_11 h ha.1 ha.2 (by omega) (by omega) (by rw [if_pos (by omega), getD_at (by omega)]; omega)) (by omega)⟩
            · refine Out.mk false [0, 1, 2, 3, 4] [] ?_
              try (conv => whnf)
              repeat (refine Need.mk ?_ ?_; (focus ((first | exact flat_by _ | exact flat_in _ | exact flat_st _ | exact flat_ts _ | exact flat_bo _ | exact flat_cl rfl))); conv => whnf)
              have c : aC p m a n = 0 := aC_0 h ha.1 ha.2 (by omega) (by omega) (by rw [if_pos (by omega), getD_at (by omega)]; omega)
              exact ⟨aGood c (by rw [aP, if_pos c, if_pos (by omega), getD_at (by omega)]) (by rw [aM, if_pos c, if_pos (by omega)]) (by simp) (by simp)⟩
        · try (conv => whnf)
          repeat (refine Need.mk ?_ ?_; (focus (((conv => whnf); (repeat (refine Need.mk (by first | rfl | omega | (simp; done)) ?_; conv => whnf)); exact Done.mk trivial))); conv => whnf)
          refine Hand.mk [] ?_
          try (conv => whnf)
          refine CallW.d (i_vecCopy p (by omega)) ?_
          try (conv => whnf)
          repeat (refine Need.mk ?_ ?_; (focus (((conv => whnf); (repeat (refine Need.mk (by first | rfl | omega | (simp; done)) ?_; conv => whnf)); exact Done.mk trivial))); conv => whnf)
          refine Hand.mk [] ?_
          try (conv => whnf)
          refine CallW.d (i_vecCopy m (by omega)) ?_
          try (conv => whnf)
          try (conv => whnf)
          repeat' (first
            | (refine Need.mk ?_ ?_; (focus (omega)); conv => whnf)
            | (refine Pick.mk ?_ ?_ ?_; rotate_left; (focus (first | with_reducible exact set_inI _ _ _ _ | (with_reducible refine get_mapI _ _ _ ?_ ?_ <;> first | omega | (simp; omega)) | (refine wid ?_ ?_ <;> omega))); conv => whnf)
            | (refine br_dec (fun _ => ?_) (fun _ => ?_) <;> first | (exfalso; omega) | contradiction | conv => whnf)
            | (refine br_not ?_; conv => whnf)
            | (refine br_bne (fun _ => ?_) (fun _ => ?_) <;> first | (exfalso; omega) | contradiction | conv => whnf)
            | (refine br_beq (fun _ => ?_) (fun _ => ?_) <;> first | (exfalso; omega) | contradiction | conv => whnf))
          · refine Out.mk false [0, 1, 2, 3, 4] [(0, 1), (1, 1)] ?_
            try (conv => whnf)
            repeat (refine Need.mk ?_ ?_; (focus ((first | exact flat_by _ | exact flat_in _ | exact flat_st _ | exact flat_ts _ | exact flat_bo _ | exact flat_cl rfl))); conv => whnf)
            exact ⟨aErr (aC_11 h ha.1 ha.2 (by omega) (by omega) (by rw [if_neg (by omega), getD_at (by omega)]; omega)) (by omega)⟩
          · refine Out.mk false [0, 1, 2, 3, 4] [] ?_
            try (conv => whnf)
            repeat (refine Need.mk ?_ ?_; (focus ((first | exact flat_by _ | exact flat_in _ | exact flat_st _ | exact flat_ts _ | exact flat_bo _ | exact flat_cl rfl))); conv => whnf)
            have c : aC p m a n = 0 := aC_0 h ha.1 ha.2 (by omega) (by omega) (by rw [if_neg (by omega), getD_at (by omega)]; omega)
            exact ⟨aGood c (by rw [aP, if_pos c, if_neg (by omega)]) (by rw [aM, if_pos c, if_neg (by omega), getD_at (by omega)]; congr 1; omega) (by simp) (by simp)⟩
          · refine Out.mk false [0, 1, 2, 3, 4] [(0, 1), (1, 1)] ?_
            try (conv => whnf)
            repeat (refine Need.mk ?_ ?_; (focus ((first | exact flat_by _ | exact flat_in _ | exact flat_st _ | exact flat_ts _ | exact flat_bo _ | exact flat_cl rfl))); conv => whnf)
            exact ⟨aErr (aC_11 h ha.1 ha.2 (by omega) (by omega) (by rw [if_pos (by omega), getD_at (by omega)]; omega)) (by omega)⟩
          · refine Out.mk false [0, 1, 2, 3, 4] [] ?_
            try (conv => whnf)
            repeat (refine Need.mk ?_ ?_; (focus ((first | exact flat_by _ | exact flat_in _ | exact flat_st _ | exact flat_ts _ | exact flat_bo _ | exact flat_cl rfl))); conv => whnf)
            have c : aC p m a n = 0 := aC_0 h ha.1 ha.2 (by omega) (by omega) (by rw [if_pos (by omega), getD_at (by omega)]; omega)
            exact ⟨aGood c (by rw [aP, if_pos c, if_pos (by omega), getD_at (by omega)]) (by rw [aM, if_pos c, if_pos (by omega)]) (by simp) (by simp)⟩
      all_goals
        refine Out.mk false [0, 1, 2, 3, 4] [(0, 1), (1, 1)] ?_
        try (conv => whnf)
        repeat (refine Need.mk ?_ ?_; (focus ((first | exact flat_by _ | exact flat_in _ | exact flat_st _ | exact flat_ts _ | exact flat_bo _ | exact flat_cl rfl))); conv => whnf)
      · exact ⟨aErr (aC_4 h (by omega)) (by omega)⟩
      · exact ⟨aErr (aC_4 h (by omega)) (by omega)⟩
    · try (conv => whnf)
      repeat' (first
        | (refine br_dec (fun _ => ?_) (fun _ => ?_) <;> first | (exfalso; omega) | contradiction | conv => whnf)
        | (refine br_not ?_; conv => whnf)
        | (refine br_bne (fun _ => ?_) (fun _ => ?_) <;> first | (exfalso; omega) | contradiction | conv => whnf)
        | (refine br_beq (fun _ => ?_) (fun _ => ?_) <;> first | (exfalso; omega) | contradiction | conv => whnf))
      refine Out.mk false [0, 1, 2, 3, 4] [(0, 1), (1, 1)] ?_
      try (conv => whnf)
      repeat (refine Need.mk ?_ ?_; (focus ((first | exact flat_by _ | exact flat_in _ | exact flat_st _ | exact flat_ts _ | exact flat_bo _ | exact flat_cl rfl))); conv => whnf)
      exact ⟨aErr (aC_4 h (by omega)) (by omega)⟩
  · have h : ¬ CntOk p m := by assumption
    refine Out.mk false [0, 1, 2, 3, 4] [(0, 1), (1, 1)] ?_
    try (conv => whnf)
    repeat (refine Need.mk ?_ ?_; (focus ((first | exact flat_by _ | exact flat_in _ | exact flat_st _ | exact flat_ts _ | exact flat_bo _ | exact flat_cl rfl))); conv => whnf)
    exact ⟨aErr (if_pos h) (by omega)⟩
theorem VecOk.set {v : List Int} (h : VecOk v) {i : Nat} (hi : i < v.length) (x : Int) : VecOk (v.set i x) ↔ cntOk x := by
  constructor
  · intro h2
    have := h2.get (i := i) (by simpa using hi)
    simpa using this
  · intro hx
    refine ⟨by simpa using h.1, fun c hc => ?_⟩
    rcases List.mem_or_eq_of_mem_set hc with h1 | h1
    · exact h.2 c h1
    · exact h1 ▸ hx
theorem s_CounterAdd (p m : List Int) (a n : Int) : CallD Try.prog id_spec_CounterAdd [vC p m, vI .i64 a, vI .i64 n] [] (aR p m a n) [.own 1 ((aP p m a n).map inD), .own 1 ((aM p m a n).map inD)] := by
  refine F_spec_CounterAdd ?_
  try (conv => whnf)
  refine Hand.mk [] ?_
  try (conv => whnf)
  refine CallW.d (s_l03CounterOK p m) ?_
  try (conv => whnf)
  try (conv => whnf)
  repeat' (first
    | (refine SeqJ.thru ?_; conv => whnf)
    | (refine br_dec (fun _ => ?_) (fun _ => ?_) <;> first | (exfalso; omega) | contradiction | conv => whnf)
    | (refine br_not ?_; conv => whnf)
    | (refine br_bne (fun _ => ?_) (fun _ => ?_) <;> first | (exfalso; omega) | contradiction | conv => whnf)
    | (refine br_beq (fun _ => ?_) (fun _ => ?_) <;> first | (exfalso; omega) | contradiction | conv => whnf))
  rotate_left 4
  · have h : CntOk p m := by assumption
    have hp := h.1.1
    have hm := h.2.1
    have ha : 0 ≤ a ∧ a < 16 := ⟨by omega, by omega⟩
    have c1 := h.1.get (i := a.toNat) (by omega)
    have c2 := h.2.get (i := a.toNat) (by omega)
    refine Need.mk ?_ ?_
    · try (conv => whnf)
      refine Hand.mk [] ?_
      try (conv => whnf)
      refine CallW.d (s_l02Copy p (by omega)) ?_
      try (conv => whnf)
      repeat (refine Need.mk ?_ ?_; (focus (((conv => whnf); (repeat (refine Need.mk (by first | rfl | omega | (simp; done)) ?_; conv => whnf)); exact Done.mk trivial))); conv => whnf)
      refine Need.mk ?_ ?_
      all_goals
        try (conv => whnf)
        repeat (refine Need.mk ?_ ?_; (focus (((conv => whnf); (repeat (refine Need.mk (by first | rfl | omega | (simp; done)) ?_; conv => whnf)); exact Done.mk trivial))); conv => whnf)
        refine Hand.mk [] ?_
        try (conv => whnf)
        refine CallW.d (s_l02Copy m (by omega)) ?_
        try (conv => whnf)
        repeat (refine Need.mk ?_ ?_; (focus (((conv => whnf); (repeat (refine Need.mk (by first | rfl | omega | (simp; done)) ?_; conv => whnf)); exact Done.mk trivial))); conv => whnf)
        try (conv => whnf)
        repeat' (first
          | (refine Need.mk ?_ ?_; (focus (omega)); conv => whnf)
          | (refine Pick.mk ?_ ?_ ?_; rotate_left; (focus (first | with_reducible exact set_inI _ _ _ _ | (with_reducible refine get_mapI _ _ _ ?_ ?_ <;> first | omega | (simp; omega)) | (refine wid ?_ ?_ <;> omega))); conv => whnf)
          | (refine br_dec (fun _ => ?_) (fun _ => ?_) <;> first | (exfalso; omega) | contradiction | conv => whnf)
          | (refine br_not ?_; conv => whnf)
          | (refine br_bne (fun _ => ?_) (fun _ => ?_) <;> first | (exfalso; omega) | contradiction | conv => whnf)
          | (refine br_beq (fun _ => ?_) (fun _ => ?_) <;> first | (exfalso; omega) | contradiction | conv => whnf))
        · refine Hand.mk [] ?_
          try (conv => whnf)
          repeat (refine Pick.mk ?_ ?_ ?_; rotate_left; (focus ((refine SlOf.full ?_; first | (simp; done) | (simp; omega)))); conv => whnf)
          refine CallW.d (s_l03CounterOK _ _) ?_
          try (conv => whnf)
          try (conv => whnf)
          repeat' (first
            | (refine br_dec (fun _ => ?_) (fun _ => ?_) <;> first | (exfalso; omega) | contradiction | conv => whnf)
            | (refine br_not ?_; conv => whnf)
            | (refine br_bne (fun _ => ?_) (fun _ => ?_) <;> first | (exfalso; omega) | contradiction | conv => whnf)
            | (refine br_beq (fun _ => ?_) (fun _ => ?_) <;> first | (exfalso; omega) | contradiction | conv => whnf))
          · have h9 : CntOk (p.set a.toNat (p[a.toNat] + n)) m := by assumption
            have h8 := (h.1.set (i := a.toNat) (by omega) _).1 h9.1
            simp only [cntOk] at h8
            refine Out.mk false [0, 1, 2, 3, 4] [] ?_
            try (conv => whnf)
            repeat (refine Need.mk ?_ ?_; (focus ((first | exact flat_by _ | exact flat_in _ | exact flat_st _ | exact flat_ts _ | exact flat_bo _ | exact flat_cl rfl))); conv => whnf)
            have c : aC p m a n = 0 := aC_0 h ha.1 ha.2 (by omega) (by omega) (by rw [if_pos (by omega), getD_at (by omega)]; omega)
            exact ⟨aGood c (by rw [aP, if_pos c, if_pos (by omega), getD_at (by omega)]) (by rw [aM, if_pos c, if_pos (by omega)]) (by simp) (by simp)⟩
          · have h9 : ¬ CntOk (p.set a.toNat (p[a.toNat] + n)) m := by assumption
            have h8 : ¬ cntOk (p[a.toNat] + n) := fun x => h9 ⟨(h.1.set (i := a.toNat) (by omega) _).2 x, h.2⟩
            simp only [cntOk] at h8
            refine Out.mk false [0, 1, 2, 3, 4] [(0, 1), (1, 1)] ?_
            try (conv => whnf)
            repeat (refine Need.mk ?_ ?_; (focus ((first | exact flat_by _ | exact flat_in _ | exact flat_st _ | exact flat_ts _ | exact flat_bo _ | exact flat_cl rfl))); conv => whnf)
            exact ⟨aErr (aC_11 h ha.1 ha.2 (by omega) (by omega) (by rw [if_pos (by omega), getD_at (by omega)]; omega)) (by omega)⟩
        · refine Hand.mk [] ?_
          try (conv => whnf)
          repeat (refine Pick.mk ?_ ?_ ?_; rotate_left; (focus ((refine SlOf.full ?_; first | (simp; done) | (simp; omega)))); conv => whnf)
          refine CallW.d (s_l03CounterOK _ _) ?_
          try (conv => whnf)
          try (conv => whnf)
          repeat' (first
            | (refine br_dec (fun _ => ?_) (fun _ => ?_) <;> first | (exfalso; omega) | contradiction | conv => whnf)
            | (refine br_not ?_; conv => whnf)
            | (refine br_bne (fun _ => ?_) (fun _ => ?_) <;> first | (exfalso; omega) | contradiction | conv => whnf)
            | (refine br_beq (fun _ => ?_) (fun _ => ?_) <;> first | (exfalso; omega) | contradiction | conv => whnf))
          · have h9 : CntOk p (m.set a.toNat (m[a.toNat] - n)) := by assumption
            have h8 := (h.2.set (i := a.toNat) (by omega) _).1 h9.2
            simp only [cntOk] at h8
            refine Out.mk false [0, 1, 2, 3, 4] [] ?_
            try (conv => whnf)
            repeat (refine Need.mk ?_ ?_; (focus ((first | exact flat_by _ | exact flat_in _ | exact flat_st _ | exact flat_ts _ | exact flat_bo _ | exact flat_cl rfl))); conv => whnf)
            have c : aC p m a n = 0 := aC_0 h ha.1 ha.2 (by omega) (by omega) (by rw [if_neg (by omega), getD_at (by omega)]; omega)
            exact ⟨aGood c (by rw [aP, if_pos c, if_neg (by omega)]) (by rw [aM, if_pos c, if_neg (by omega), getD_at (by omega)]) (by simp) (by simp)⟩
          · have h9 : ¬ CntOk p (m.set a.toNat (m[a.toNat] - n)) := by assumption
            have h8 : ¬ cntOk (m[a.toNat] - n) := fun x => h9 ⟨h.1, (h.2.set (i := a.toNat) (by omega) _).2 x⟩
            simp only [cntOk] at h8
            refine Out.mk false [0, 1, 2, 3, 4] [(0, 1), (1, 1)] ?_
            try (conv => whnf)
            repeat (refine Need.mk ?_ ?_; (focus ((first | exact flat_by _ | exact flat_in _ | exact flat_st _ | exact flat_ts _ | exact flat_bo _ | exact flat_cl rfl))); conv => whnf)
            exact ⟨aErr (aC_11 h ha.1 ha.2 (by omega) (by omega) (by rw [if_neg (by omega), getD_at (by omega)]; omega)) (by omega)⟩
    · try (conv => whnf)
      repeat (refine Need.mk ?_ ?_; (focus (((conv => whnf); (repeat (refine Need.mk (by first | rfl | omega | (simp; done)) ?_; conv => whnf)); exact Done.mk trivial))); conv => whnf)
      refine Hand.mk [] ?_
      try (conv => whnf)
      refine CallW.d (s_l02Copy p (by omega)) ?_
      try (conv => whnf)
      repeat (refine Need.mk ?_ ?_; (focus (((conv => whnf); (repeat (refine Need.mk (by first | rfl | omega | (simp; done)) ?_; conv => whnf)); exact Done.mk trivial))); conv => whnf)
      refine Hand.mk [] ?_
      try (conv => whnf)
      refine CallW.d (s_l02Copy m (by omega)) ?_
      try (conv => whnf)
      try (conv => whnf)
      repeat' (first
        | (refine Need.mk ?_ ?_; (focus (omega)); conv => whnf)
        | (refine Pick.mk ?_ ?_ ?_; rotate_left; (focus (first | with_reducible exact set_inI _ _ _ _ | (with_reducible refine get_mapI _ _ _ ?_ ?_ <;> first | omega | (simp; omega)) | (refine wid ?_ ?_ <;> omega))); conv => whnf)
        | (refine br_dec (fun _ => ?_) (fun _ => ?_) <;> first | (exfalso; omega) | contradiction | conv => whnf)
        | (refine br_not ?_; conv => whnf)
        | (refine br_bne (fun _ => ?_) (fun _ => ?_) <;> first | (exfalso; omega) | contradiction | conv => whnf)
        | (refine br_beq (fun _ => ?_) (fun _ => ?_) <;> first | (exfalso; omega) | contradiction | conv => whnf))
      · refine Hand.mk [] ?_
        try (conv => whnf)
        repeat (refine Pick.mk ?_ ?_ ?_; rotate_left; (focus ((refine SlOf.full ?_; first | (simp; done) | (simp; omega)))); conv => whnf)
        refine CallW.d (s_l03CounterOK _ _) ?_
        try (conv => whnf)
        try (conv => whnf)
        repeat' (first
          | (refine br_dec (fun _ => ?_) (fun _ => ?_) <;> first | (exfalso; omega) | contradiction | conv => whnf)
          | (refine br_not ?_; conv => whnf)
          | (refine br_bne (fun _ => ?_) (fun _ => ?_) <;> first | (exfalso; omega) | contradiction | conv => whnf)
          | (refine br_beq (fun _ => ?_) (fun _ => ?_) <;> first | (exfalso; omega) | contradiction | conv => whnf))
        · have h9 : CntOk (p.set a.toNat (p[a.toNat] + n)) m := by assumption
          have h8 := (h.1.set (i := a.toNat) (by omega) _).1 h9.1
          simp only [cntOk] at h8
          refine Out.mk false [0, 1, 2, 3, 4] [] ?_
          try (conv => whnf)
          repeat (refine Need.mk ?_ ?_; (focus ((first | exact flat_by _ | exact flat_in _ | exact flat_st _ | exact flat_ts _ | exact flat_bo _ | exact flat_cl rfl))); conv => whnf)
          have c : aC p m a n = 0 := aC_0 h ha.1 ha.2 (by omega) (by omega) (by rw [if_pos (by omega), getD_at (by omega)]; omega)
          exact ⟨aGood c (by rw [aP, if_pos c, if_pos (by omega), getD_at (by omega)]) (by rw [aM, if_pos c, if_pos (by omega)]) (by simp) (by simp)⟩
        · have h9 : ¬ CntOk (p.set a.toNat (p[a.toNat] + n)) m := by assumption
          have h8 : ¬ cntOk (p[a.toNat] + n) := fun x => h9 ⟨(h.1.set (i := a.toNat) (by omega) _).2 x, h.2⟩
          simp only [cntOk] at h8
          refine Out.mk false [0, 1, 2, 3, 4] [(0, 1), (1, 1)] ?_
          try (conv => whnf)
          repeat (refine Need.mk ?_ ?_; (focus ((first | exact flat_by _ | exact flat_in _ | exact flat_st _ | exact flat_ts _ | exact flat_bo _ | exact flat_cl rfl))); conv => whnf)
          exact ⟨aErr (aC_11 h ha.1 ha.2 (by omega) (by omega) (by rw [if_pos (by omega), getD_at (by omega)]; omega)) (by omega)⟩
      · refine Hand.mk [] ?_
        try (conv => whnf)
        repeat (refine Pick.mk ?_ ?_ ?_; rotate_left; (focus ((refine SlOf.full ?_; first | (simp; done) | (simp; omega)))); conv => whnf)
        refine CallW.d (s_l03CounterOK _ _) ?_
        try (conv => whnf)
        try (conv => whnf)
        repeat' (first
          | (refine br_dec (fun _ => ?_) (fun _ => ?_) <;> first | (exfalso; omega) | contradiction | conv => whnf)
          | (refine br_not ?_; conv => whnf)
          | (refine br_bne (fun _ => ?_) (fun _ => ?_) <;> first | (exfalso; omega) | contradiction | conv => whnf)
          | (refine br_beq (fun _ => ?_) (fun _ => ?_) <;> first | (exfalso; omega) | contradiction | conv => whnf))
        · have h9 : CntOk p (m.set a.toNat (m[a.toNat] - n)) := by assumption
          have h8 := (h.2.set (i := a.toNat) (by omega) _).1 h9.2
          simp only [cntOk] at h8
          refine Out.mk false [0, 1, 2, 3, 4] [] ?_
          try (conv => whnf)
          repeat (refine Need.mk ?_ ?_; (focus ((first | exact flat_by _ | exact flat_in _ | exact flat_st _ | exact flat_ts _ | exact flat_bo _ | exact flat_cl rfl))); conv => whnf)
          have c : aC p m a n = 0 := aC_0 h ha.1 ha.2 (by omega) (by omega) (by rw [if_neg (by omega), getD_at (by omega)]; omega)
          exact ⟨aGood c (by rw [aP, if_pos c, if_neg (by omega)]) (by rw [aM, if_pos c, if_neg (by omega), getD_at (by omega)]) (by simp) (by simp)⟩
        · have h9 : ¬ CntOk p (m.set a.toNat (m[a.toNat] - n)) := by assumption
          have h8 : ¬ cntOk (m[a.toNat] - n) := fun x => h9 ⟨h.1, (h.2.set (i := a.toNat) (by omega) _).2 x⟩
          simp only [cntOk] at h8
          refine Out.mk false [0, 1, 2, 3, 4] [(0, 1), (1, 1)] ?_
          try (conv => whnf)
          repeat (refine Need.mk ?_ ?_; (focus ((first | exact flat_by _ | exact flat_in _ | exact flat_st _ | exact flat_ts _ | exact flat_bo _ | exact flat_cl rfl))); conv => whnf)
          exact ⟨aErr (aC_11 h ha.1 ha.2 (by omega) (by omega) (by rw [if_neg (by omega), getD_at (by omega)]; omega)) (by omega)⟩
  · have h : ¬ CntOk p m := by assumption
    refine Out.mk false [0, 1, 2, 3, 4] [(0, 1), (1, 1)] ?_
    try (conv => whnf)
    repeat (refine Need.mk ?_ ?_; (focus ((first | exact flat_by _ | exact flat_in _ | exact flat_st _ | exact flat_ts _ | exact flat_bo _ | exact flat_cl rfl))); conv => whnf)
    exact ⟨aErr (if_pos h) (by omega)⟩
  all_goals
    have h : CntOk p m := by assumption
    refine Out.mk false [0, 1, 2, 3, 4] [(0, 1), (1, 1)] ?_
    try (conv => whnf)
    repeat (refine Need.mk ?_ ?_; (focus ((first | exact flat_by _ | exact flat_in _ | exact flat_st _ | exact flat_ts _ | exact flat_bo _ | exact flat_cl rfl))); conv => whnf)
  all_goals exact ⟨aErr (aC_4 (by assumption) (by omega)) (by omega)⟩
end Go.Proofs.Ytoklfidamhigcaa.D
