/- Numbers and lists of numbers as bytes, whole: by the program (and the reference). -/
import Derived.Test.YtoklfidamhigcaaRun2
import Derived.Test.YtoklfidamhigcaaRun3
namespace Go.Proofs.Ytoklfidamhigcaa.D
open Go.RowKit
set_option maxRecDepth 100000
set_option maxHeartbeats 4000000
set_option linter.unusedVariables false
set_option linter.unusedSimpArgs false

theorem i_PutInt (v : Int) (h : -9223372036854775808 ≤ v ∧ v ≤ 9223372036854775807) : CallD Try.prog id_impl_PutInt [vI .i64 v] []
    (.tup [(false, [.os 0 1 0 (if 0 ≤ v ∧ v ≤ 4611686018427387903 then put v.toNat else []).length]), (false, [cI (if 0 ≤ v ∧ v ≤ 4611686018427387903 then 0 else 4)])]) [.own 1 ((if 0 ≤ v ∧ v ≤ 4611686018427387903 then put v.toNat else []).map byD)] := by
  refine F_impl_PutInt ?_
  try (conv => whnf)
  repeat' (first
    | (refine SeqJ.thru ?_; conv => whnf)
    | (refine br_dec (fun _ => ?_) (fun _ => ?_) <;> first | (exfalso; omega) | contradiction | conv => whnf)
    | (refine br_not ?_; conv => whnf)
    | (refine br_bne (fun _ => ?_) (fun _ => ?_) <;> first | (exfalso; omega) | contradiction | conv => whnf)
    | (refine br_beq (fun _ => ?_) (fun _ => ?_) <;> first | (exfalso; omega) | contradiction | conv => whnf))
  · refine Out.mk false [0, 1, 2, 3, 4] [(0, 1)] ?_
    try (conv => whnf)
    repeat (refine Need.mk ?_ ?_; (focus ((first | exact flat_by _ | exact flat_in _ | exact flat_st _ | exact flat_ts _ | exact flat_bo _ | exact flat_cl rfl))); conv => whnf)
    rw [if_neg (by omega), if_neg (by omega)]
    exact ⟨rfl, rfl⟩
  · refine Out.mk false [0, 1, 2, 3, 4] [(0, 1)] ?_
    try (conv => whnf)
    repeat (refine Need.mk ?_ ?_; (focus ((first | exact flat_by _ | exact flat_in _ | exact flat_st _ | exact flat_ts _ | exact flat_bo _ | exact flat_cl rfl))); conv => whnf)
    rw [if_neg (by omega), if_neg (by omega)]
    exact ⟨rfl, rfl⟩
  · obtain ⟨n, rfl⟩ : ∃ n : Nat, v = n := ⟨v.toNat, by omega⟩
    have hp := put_len (n := n) (by omega)
    refine Hand.mk [] ?_
    try (conv => whnf)
    refine CallW.d (i_appendInt_nil n (by omega)) ?_
    try (conv => whnf)
    refine Out.mk false [0, 1, 2, 3, 4] [] ?_
    try (conv => whnf)
    repeat (refine Need.mk ?_ ?_; (focus ((first | exact flat_by _ | exact flat_in _ | exact flat_st _ | exact flat_ts _ | exact flat_bo _ | exact flat_cl rfl))); conv => whnf)
    rw [if_pos (by omega), if_pos (by omega)]
    exact ⟨rfl, rfl⟩
theorem i_GetInt {l : List UInt8} {a x y : Nat} (h : get l a = some (x, y)) (hl : l.length ≤ 1048576) (ha : a ≤ l.length) : CallD Try.prog id_impl_GetInt [vY l, vI .i64 a] []
    (.tup [(false, [cI x]), (false, [cI y]), (false, [cI 0])]) [] := by
  refine F_impl_GetInt ?_
  try (conv => whnf)
  repeat' (first
    | (refine Pick.mk ?_ ?_ ?_; rotate_left; (focus (exact List.length_map _)); conv => whnf)
    | (refine SeqJ.thru ?_; conv => whnf)
    | (refine br_dec (fun _ => ?_) (fun _ => ?_) <;> first | (exfalso; omega) | contradiction | conv => whnf)
    | (refine br_not ?_; conv => whnf)
    | (refine br_bne (fun _ => ?_) (fun _ => ?_) <;> first | (exfalso; omega) | contradiction | conv => whnf)
    | (refine br_beq (fun _ => ?_) (fun _ => ?_) <;> first | (exfalso; omega) | contradiction | conv => whnf))
  refine Hand.mk [] ?_
  try (conv => whnf)
  refine CallW.n (i_num h (by omega)) ?_
  rintro _ _ ⟨rfl, rfl⟩
  try (conv => whnf)
  repeat (refine SeqJ.thru ?_; conv => whnf)
  refine Out.mk true [] [] ?_
  try (conv => whnf)
  exact ⟨rfl, rfl⟩
/-- What is given back for a list of numbers. -/
def prC (xs : List Int) : Int := if 4096 < xs.length then 2 else if ∀ x ∈ xs, inM x then 0 else 4
def prB (xs : List Int) : List UInt8 := if prC xs = 0 then putR xs else []
abbrev prR (xs : List Int) : SV := .tup [(false, [.os 0 1 0 (prB xs).length]), (false, [cI (prC xs)])]
theorem prErr {xs : List Int} {c : Int} (hc : prC xs = c) (h0 : c ≠ 0) : SV.tup [(false, [.os 0 1 0 0]), (false, [cI c])] = prR xs ∧ [Row.own 1 []] = [Row.own 1 ((prB xs).map byD)] := by
  subst hc
  rw [prR, prB, if_neg h0]
  exact ⟨rfl, rfl⟩
theorem prGood {xs : List Int} (hl : ¬ 4096 < xs.length) (h : ∀ x ∈ xs, inM x) : SV.tup [(false, [.os 0 1 0 (putR xs).length]), (false, [cI 0])] = prR xs ∧ [Row.own 1 ((putR xs).map byD)] = [Row.own 1 ((prB xs).map byD)] := by
  have hc : prC xs = 0 := by rw [prC, if_neg hl, if_pos h]
  rw [prR, prB, if_pos hc, hc]
  exact ⟨rfl, rfl⟩
theorem i_PutRuns (xs : List Int) (hl : xs.length ≤ 2 ^ 40) : CallD Try.prog id_impl_PutRuns [vN xs] [] (prR xs) [.own 1 ((prB xs).map byD)] := by
  refine F_impl_PutRuns ?_
  try (conv => whnf)
  repeat' (first
    | (refine Pick.mk ?_ ?_ ?_; rotate_left; (focus (exact List.length_map _)); conv => whnf)
    | (refine SeqJ.thru ?_; conv => whnf)
    | (refine br_dec (fun _ => ?_) (fun _ => ?_) <;> first | (exfalso; omega) | contradiction | conv => whnf)
    | (refine br_not ?_; conv => whnf)
    | (refine br_bne (fun _ => ?_) (fun _ => ?_) <;> first | (exfalso; omega) | contradiction | conv => whnf)
    | (refine br_beq (fun _ => ?_) (fun _ => ?_) <;> first | (exfalso; omega) | contradiction | conv => whnf))
  · refine Out.mk false [0, 1, 2, 3, 4] [(0, 1)] ?_
    try (conv => whnf)
    repeat (refine Need.mk ?_ ?_; (focus ((first | exact flat_by _ | exact flat_in _ | exact flat_st _ | exact flat_ts _ | exact flat_bo _ | exact flat_cl rfl))); conv => whnf)
    exact ⟨prErr (by rw [prC, if_pos (by omega)]) (by omega)⟩
  · refine LoopE.mk (fun i : Nat => mk [(0, vN xs), (9, vN xs), (10, vI .i64 xs.length), (11, vI .i64 i)] []) (fun i => i ≤ xs.length ∧ ∀ x ∈ xs.take i, inM x) (fun i => xs.length - i) 0 ⟨by omega, by simp⟩ (LeX.of ?_) ?_
    · try (conv => whnf)
      repeat (refine Need.mk ?_ ?_; (focus (first | omega | (simp; done))); conv => whnf)
      trivial
    · rintro i ⟨hi, hx⟩
      rcases Nat.lt_or_ge i xs.length with hlt | hge
      · by_cases hm : inM xs[i]
        · have hm' := hm
          unfold inM M4 at hm'
          try (conv => whnf)
          repeat' (first
            | (refine Pick.mk ?_ ?_ ?_; rotate_left; (focus (first | (refine wid ?_ ?_ <;> omega) | (refine pick_nat _ _ _ ?_; omega))); conv => whnf)
            | (refine SeqJ.thru ?_; conv => whnf)
            | (refine br_dec (fun _ => ?_) (fun _ => ?_) <;> first | (exfalso; omega) | contradiction | conv => whnf)
            | (refine br_not ?_; conv => whnf)
            | (refine br_bne (fun _ => ?_) (fun _ => ?_) <;> first | (exfalso; omega) | contradiction | conv => whnf)
            | (refine br_beq (fun _ => ?_) (fun _ => ?_) <;> first | (exfalso; omega) | contradiction | conv => whnf))
          refine Pick.mk (i + 1) ⟨⟨by omega, fun x hx' => ?_⟩, by omega⟩ (LeX.of ?_)
          · rw [List.take_succ_eq_append_getElem hlt] at hx'
            rcases List.mem_append.1 hx' with h | h
            · exact hx x h
            · simp at h; subst h; exact hm
          · try (conv => whnf)
            repeat (refine Need.mk ?_ ?_; (focus (first | omega | (simp; done))); conv => whnf)
            trivial
        · have hn : ¬ ∀ x ∈ xs, inM x := fun h => hm (h _ (List.getElem_mem _))
          unfold inM M4 at hm
          try (conv => whnf)
          repeat' (first
            | (refine Pick.mk ?_ ?_ ?_; rotate_left; (focus ((refine pick_nat _ _ _ ?_; omega))); conv => whnf)
            | (refine SeqJ.thru ?_; conv => whnf)
            | (refine br_dec (fun _ => ?_) (fun _ => ?_) <;> first | (exfalso; omega) | contradiction | conv => whnf)
            | (refine br_not ?_; conv => whnf)
            | (refine br_bne (fun _ => ?_) (fun _ => ?_) <;> first | (exfalso; omega) | contradiction | conv => whnf)
            | (refine br_beq (fun _ => ?_) (fun _ => ?_) <;> first | (exfalso; omega) | contradiction | conv => whnf))
          all_goals
            refine Out.mk false [0, 1, 2, 3, 4] [(0, 1)] ?_
            try (conv => whnf)
            repeat (refine Need.mk ?_ ?_; (focus ((first | exact flat_by _ | exact flat_in _ | exact flat_st _ | exact flat_ts _ | exact flat_bo _ | exact flat_cl rfl))); conv => whnf)
          all_goals exact ⟨prErr (by rw [prC, if_neg (by omega), if_neg hn]) (by omega)⟩
      · rw [List.take_of_length_le hge] at hx
        try (conv => whnf)
        repeat' (first
          | (refine SeqJ.thru ?_; conv => whnf)
          | (refine br_dec (fun _ => ?_) (fun _ => ?_) <;> first | (exfalso; omega) | contradiction | conv => whnf)
          | (refine br_not ?_; conv => whnf)
          | (refine br_bne (fun _ => ?_) (fun _ => ?_) <;> first | (exfalso; omega) | contradiction | conv => whnf)
          | (refine br_beq (fun _ => ?_) (fun _ => ?_) <;> first | (exfalso; omega) | contradiction | conv => whnf))
        refine Hand.mk [] ?_
        try (conv => whnf)
        refine CallW.d (i_appendRuns_nil xs hx (by omega)) ?_
        try (conv => whnf)
        refine Out.mk false [0, 1, 2, 3, 4] [] ?_
        try (conv => whnf)
        repeat (refine Need.mk ?_ ?_; (focus ((first | exact flat_by _ | exact flat_in _ | exact flat_st _ | exact flat_ts _ | exact flat_bo _ | exact flat_cl rfl))); conv => whnf)
        exact ⟨prGood (by omega) hx⟩
theorem s_l01RunsOK (xs : List Int) (hl : xs.length ≤ 2 ^ 40) : CallD Try.prog id_spec_l01RunsOK [vN xs] [] (vB (decide (∀ x ∈ xs, inM x))) [] := by
  refine F_spec_l01RunsOK ?_
  try (conv => whnf)
  refine LoopE.mk (fun i : Nat => mk [(0, vN xs), (3, vI .i64 i)] []) (fun i => i ≤ xs.length ∧ ∀ x ∈ xs.take i, inM x) (fun i => xs.length - i) 0 ⟨by omega, by simp⟩ (LeX.of ?_) ?_
  · try (conv => whnf)
    repeat (refine Need.mk ?_ ?_; (focus (first | omega | (simp; done))); conv => whnf)
    trivial
  · rintro i ⟨hi, hx⟩
    rcases Nat.lt_or_ge i xs.length with hlt | hge
    · by_cases hm : inM xs[i]
      · have hm' := hm
        unfold inM M4 at hm'
        try (conv => whnf)
        repeat' (first
          | (refine Pick.mk ?_ ?_ ?_; rotate_left; (focus (first | exact List.length_map _ | (refine wid ?_ ?_ <;> omega) | (refine pick_nat _ _ _ ?_; omega))); conv => whnf)
          | (refine SeqJ.thru ?_; conv => whnf)
          | (refine br_dec (fun _ => ?_) (fun _ => ?_) <;> first | (exfalso; omega) | contradiction | conv => whnf)
          | (refine br_not ?_; conv => whnf)
          | (refine br_bne (fun _ => ?_) (fun _ => ?_) <;> first | (exfalso; omega) | contradiction | conv => whnf)
          | (refine br_beq (fun _ => ?_) (fun _ => ?_) <;> first | (exfalso; omega) | contradiction | conv => whnf))
        refine Pick.mk (i + 1) ⟨⟨by omega, fun x hx' => ?_⟩, by omega⟩ (LeX.of ?_)
        · rw [List.take_succ_eq_append_getElem hlt] at hx'
          rcases List.mem_append.1 hx' with h | h
          · exact hx x h
          · simp at h; subst h; exact hm
        · try (conv => whnf)
          repeat (refine Need.mk ?_ ?_; (focus (first | omega | (simp; done))); conv => whnf)
          trivial
      · have hn : ¬ ∀ x ∈ xs, inM x := fun h => hm (h _ (List.getElem_mem _))
        unfold inM M4 at hm
        try (conv => whnf)
        repeat' (first
          | (refine Pick.mk ?_ ?_ ?_; rotate_left; (focus (first | exact List.length_map _ | (refine pick_nat _ _ _ ?_; omega))); conv => whnf)
          | (refine SeqJ.thru ?_; conv => whnf)
          | (refine br_dec (fun _ => ?_) (fun _ => ?_) <;> first | (exfalso; omega) | contradiction | conv => whnf)
          | (refine br_not ?_; conv => whnf)
          | (refine br_bne (fun _ => ?_) (fun _ => ?_) <;> first | (exfalso; omega) | contradiction | conv => whnf)
          | (refine br_beq (fun _ => ?_) (fun _ => ?_) <;> first | (exfalso; omega) | contradiction | conv => whnf))
        all_goals
          refine Out.mk true [] [] ?_
          try (conv => whnf)
        all_goals exact ⟨by rw [decide_eq_false hn], rfl⟩
    · rw [List.take_of_length_le hge] at hx
      try (conv => whnf)
      repeat' (first
        | (refine Pick.mk ?_ ?_ ?_; rotate_left; (focus (exact List.length_map _)); conv => whnf)
        | (refine SeqJ.thru ?_; conv => whnf)
        | (refine br_dec (fun _ => ?_) (fun _ => ?_) <;> first | (exfalso; omega) | contradiction | conv => whnf)
        | (refine br_not ?_; conv => whnf)
        | (refine br_bne (fun _ => ?_) (fun _ => ?_) <;> first | (exfalso; omega) | contradiction | conv => whnf)
        | (refine br_beq (fun _ => ?_) (fun _ => ?_) <;> first | (exfalso; omega) | contradiction | conv => whnf))
      refine Out.mk true [] [] ?_
      try (conv => whnf)
      exact ⟨by rw [decide_eq_true hx], rfl⟩
theorem s_PutRuns (xs : List Int) (hl : xs.length ≤ 2 ^ 40) : CallD Try.prog id_spec_PutRuns [vN xs] [] (prR xs) [.own 1 ((prB xs).map byD)] := by
  refine F_spec_PutRuns ?_
  try (conv => whnf)
  repeat' (first
    | (refine Pick.mk ?_ ?_ ?_; rotate_left; (focus (first | exact List.length_map _ | (simp only [chunks]; rfl))); conv => whnf)
    | (refine SeqJ.thru ?_; conv => whnf)
    | (refine br_dec (fun _ => ?_) (fun _ => ?_) <;> first | (exfalso; omega) | contradiction | conv => whnf)
    | (refine br_not ?_; conv => whnf)
    | (refine br_bne (fun _ => ?_) (fun _ => ?_) <;> first | (exfalso; omega) | contradiction | conv => whnf)
    | (refine br_beq (fun _ => ?_) (fun _ => ?_) <;> first | (exfalso; omega) | contradiction | conv => whnf))
  · refine Out.mk false [0, 1, 2, 3, 4] [] ?_
    try (conv => whnf)
    repeat (refine Need.mk ?_ ?_; (focus ((first | exact flat_by _ | exact flat_in _ | exact flat_st _ | exact flat_ts _ | exact flat_bo _ | exact flat_cl rfl))); conv => whnf)
    exact ⟨prErr (by rw [prC, if_pos (by omega)]) (by omega)⟩
  · refine Hand.mk [] ?_
    try (conv => whnf)
    refine CallW.d (s_l01RunsOK xs hl) ?_
    try (conv => whnf)
    by_cases h : ∀ x ∈ xs, inM x
    · rw [decide_eq_true h]
      try (conv => whnf)
      repeat' (first
        | (refine br_dec (fun _ => ?_) (fun _ => ?_) <;> first | (exfalso; omega) | contradiction | conv => whnf)
        | (refine br_not ?_; conv => whnf)
        | (refine br_bne (fun _ => ?_) (fun _ => ?_) <;> first | (exfalso; omega) | contradiction | conv => whnf)
        | (refine br_beq (fun _ => ?_) (fun _ => ?_) <;> first | (exfalso; omega) | contradiction | conv => whnf))
      refine Hand.mk [] ?_
      try (conv => whnf)
      refine CallW.d (s_l01PutRuns xs h hl) ?_
      try (conv => whnf)
      refine Out.mk false [0, 1, 2, 3, 4] [] ?_
      try (conv => whnf)
      repeat (refine Need.mk ?_ ?_; (focus ((first | exact flat_by _ | exact flat_in _ | exact flat_st _ | exact flat_ts _ | exact flat_bo _ | exact flat_cl rfl))); conv => whnf)
      exact ⟨prGood (by omega) h⟩
    · rw [decide_eq_false h]
      try (conv => whnf)
      repeat' (first
        | (refine Pick.mk ?_ ?_ ?_; rotate_left; (focus ((simp only [chunks]; rfl))); conv => whnf)
        | (refine br_dec (fun _ => ?_) (fun _ => ?_) <;> first | (exfalso; omega) | contradiction | conv => whnf)
        | (refine br_not ?_; conv => whnf)
        | (refine br_bne (fun _ => ?_) (fun _ => ?_) <;> first | (exfalso; omega) | contradiction | conv => whnf)
        | (refine br_beq (fun _ => ?_) (fun _ => ?_) <;> first | (exfalso; omega) | contradiction | conv => whnf))
      refine Out.mk false [0, 1, 2, 3, 4] [] ?_
      try (conv => whnf)
      repeat (refine Need.mk ?_ ?_; (focus ((first | exact flat_by _ | exact flat_in _ | exact flat_st _ | exact flat_ts _ | exact flat_bo _ | exact flat_cl rfl))); conv => whnf)
      exact ⟨prErr (by rw [prC, if_neg (by omega), if_neg h]) (by omega)⟩
def grC (l : List UInt8) : Int := if l.length > 1048576 then 2 else match getR l 0 with | some (_, b) => if b = l.length then 0 else 3 | none => 3
def grT (l : List UInt8) : List Int := if grC l = 0 then (match getR l 0 with | some (ts, _) => ts | none => []) else []
abbrev grR (l : List UInt8) : SV := .tup [(false, [.os 0 1 0 (grT l).length]), (false, [cI (grC l)])]
theorem grErr {l : List UInt8} {c : Int} (hc : grC l = c) (h0 : c ≠ 0) : SV.tup [(false, [.os 0 1 0 0]), (false, [cI c])] = grR l ∧ [Row.own 1 []] = [Row.own 1 ((grT l).map inD)] := by
  subst hc
  rw [grR, grT, if_neg h0]
  exact ⟨rfl, rfl⟩
theorem grGood {l : List UInt8} {ts : List Int} (hc : grC l = 0) (h : grT l = ts) : SV.tup [(false, [.os 0 1 0 ts.length]), (false, [cI 0])] = grR l ∧ [Row.own 1 (ts.map inD)] = [Row.own 1 ((grT l).map inD)] := by
  subst h
  rw [grR, hc]
  exact ⟨rfl, rfl⟩
theorem i_GetRuns (l : List UInt8) (hl : l.length ≤ 2 ^ 47) : CallD Try.prog id_impl_GetRuns [vY l] [] (grR l) [.own 1 ((grT l).map inD)] := by
  refine F_impl_GetRuns ?_
  try (conv => whnf)
  repeat' (first
    | (refine Pick.mk ?_ ?_ ?_; rotate_left; (focus (exact List.length_map _)); conv => whnf)
    | (refine SeqJ.thru ?_; conv => whnf)
    | (refine br_dec (fun _ => ?_) (fun _ => ?_) <;> first | (exfalso; omega) | contradiction | conv => whnf)
    | (refine br_not ?_; conv => whnf)
    | (refine br_bne (fun _ => ?_) (fun _ => ?_) <;> first | (exfalso; omega) | contradiction | conv => whnf)
    | (refine br_beq (fun _ => ?_) (fun _ => ?_) <;> first | (exfalso; omega) | contradiction | conv => whnf))
  · refine Out.mk false [0, 1, 2, 3, 4] [(0, 1)] ?_
    try (conv => whnf)
    repeat (refine Need.mk ?_ ?_; (focus ((first | exact flat_by _ | exact flat_in _ | exact flat_st _ | exact flat_ts _ | exact flat_bo _ | exact flat_cl rfl))); conv => whnf)
    exact ⟨grErr (l := l) (if_pos (by omega)) (by omega)⟩
  · refine Hand.mk [] ?_
    try (conv => whnf)
    refine CallW.n (i_runs l 0 (by omega) (by omega)) ?_
    rintro _ _ ⟨b, bad, ts, rfl, rfl, hb, h⟩
    cases hT : getR l 0 with
    | none =>
      rw [hT] at h
      dsimp only at h
      subst h
      try (conv => whnf)
      repeat (refine SeqJ.thru ?_; conv => whnf)
      refine Out.mk false [0, 1, 2, 3, 4] [(0, 1)] ?_
      try (conv => whnf)
      repeat (refine Need.mk ?_ ?_; (focus ((first | exact flat_by _ | exact flat_in _ | exact flat_st _ | exact flat_ts _ | exact flat_bo _ | exact flat_cl rfl))); conv => whnf)
      exact ⟨grErr (l := l) (by rw [grC, if_neg (by omega), hT]) (by omega)⟩
    | some r =>
      obtain ⟨us, c⟩ := r
      rw [hT] at h
      dsimp only at h
      obtain ⟨rfl, rfl, rfl⟩ := h
      try (conv => whnf)
      repeat' (first
        | (refine Pick.mk ?_ ?_ ?_; rotate_left; (focus (exact List.length_map _)); conv => whnf)
        | (refine SeqJ.thru ?_; conv => whnf)
        | (refine br_dec (fun _ => ?_) (fun _ => ?_) <;> first | (exfalso; omega) | contradiction | conv => whnf)
        | (refine br_not ?_; conv => whnf)
        | (refine br_bne (fun _ => ?_) (fun _ => ?_) <;> first | (exfalso; omega) | contradiction | conv => whnf)
        | (refine br_beq (fun _ => ?_) (fun _ => ?_) <;> first | (exfalso; omega) | contradiction | conv => whnf))
      rotate_left
      · refine Out.mk false [0, 1, 2, 3, 4] [(0, 1)] ?_
        try (conv => whnf)
        repeat (refine Need.mk ?_ ?_; (focus ((first | exact flat_by _ | exact flat_in _ | exact flat_st _ | exact flat_ts _ | exact flat_bo _ | exact flat_cl rfl))); conv => whnf)
        have hne : b ≠ l.length := by omega
        exact ⟨grErr (l := l) (by rw [grC, if_neg (by omega), hT]; exact if_neg hne) (by omega)⟩
      · refine Out.mk false [0, 1, 2, 3, 4] [] ?_
        try (conv => whnf)
        repeat (refine Need.mk ?_ ?_; (focus ((first | exact flat_by _ | exact flat_in _ | exact flat_st _ | exact flat_ts _ | exact flat_bo _ | exact flat_cl rfl))); conv => whnf)
        have he : b = l.length := by omega
        have hc : grC l = 0 := by rw [grC, if_neg (by omega), hT]; exact if_pos he
        exact ⟨grGood (l := l) hc (by rw [grT, if_pos hc, hT])⟩
/-- What lists of numbers written and read give: the same; with a byte more they are none. -/
theorem gr_put {xs : List Int} (h : prC xs = 0) (hl : (putR xs).length ≤ 1048576) : grC (putR xs) = 0 ∧ grT (putR xs) = xs := by
  have hx : ¬ 4096 < xs.length ∧ ∀ x ∈ xs, inM x := by
    rw [prC] at h
    split at h
    · omega
    · split at h
      · rename_i a b; exact ⟨a, b⟩
      · omega
  have := getR_put hx.2 (by omega) [] []
  simp at this
  have hc : grC (putR xs) = 0 := by rw [grC, if_neg (by omega), this]; simp
  exact ⟨hc, by rw [grT, if_pos hc, this]⟩
theorem gr_more {xs : List Int} (h : prC xs = 0) (hl : (putR xs).length < 1048576) (z : UInt8) : grC (putR xs ++ [z]) = 3 := by
  have hx : ¬ 4096 < xs.length ∧ ∀ x ∈ xs, inM x := by
    rw [prC] at h
    split at h
    · omega
    · split at h
      · rename_i a b; exact ⟨a, b⟩
      · omega
  have := getR_put hx.2 (by omega) [] [z]
  simp at this
  rw [grC, if_neg (by simp; omega), this]
  simp
end Go.Proofs.Ytoklfidamhigcaa.D
