/- Writing to a register of several: by both. -/
import Derived.Test.YtoklfidamhigcaaMul
namespace Go.Proofs.Ytoklfidamhigcaa.D
open Go.RowKit
set_option maxRecDepth 100000
set_option maxHeartbeats 4000000
set_option linter.unusedVariables false
set_option linter.unusedSimpArgs false

/-- The code of writing. -/
def wC (s : List Int) (a : Int) (x : List UInt8) : Int := if ¬ actOk a ∨ 200 < x.length then 4 else if s.getD a.toNat 0 = 1000000000000 then 11 else 0
def wS (s : List Int) (a : Int) (x : List UInt8) : List Int := if wC s a x = 0 then s.set a.toNat (s.getD a.toNat 0 + 1) else []
def wE (s : List Int) (a : Int) (x : List UInt8) : EntV := if wC s a x = 0 then ⟨s.getD a.toNat 0 + 1, a, x⟩ else ⟨0, 0, []⟩
abbrev wR (s : List Int) (a : Int) (x : List UInt8) : SV := .tup [(true, [.os 0 1 0 (wS s a x).length]), (true, [cI (wE s a x).t, cI (wE s a x).a, cS (bs (wE s a x).x)]), (false, [cI (wC s a x)])]
theorem wErr {s : List Int} {a : Int} {x : List UInt8} {c : Int} (hc : wC s a x = c) (h0 : c ≠ 0) : SV.tup [(true, [.os 0 1 0 0]), (true, [cI 0, cI 0, cS (bs [])]), (false, [cI c])] = wR s a x ∧ [Row.own 1 []] = [Row.own 1 ((wS s a x).map inD)] := by
  subst hc
  rw [wR, wS, wE, if_neg h0, if_neg h0]
  exact ⟨rfl, rfl⟩
theorem wGood {s : List Int} {a : Int} {x : List UInt8} {v : Int} (hc : wC s a x = 0) (hl : s.length = 16) (hv : s.getD a.toNat 0 = v) : SV.tup [(true, [.os 0 1 0 s.length]), (true, [cI (v + 1), cI a, cS (bs x)]), (false, [cI 0])] = wR s a x ∧ [Row.own 1 ((s.set a.toNat (v + 1)).map inD)] = [Row.own 1 ((wS s a x).map inD)] := by
  rw [wR, wS, wE, if_pos hc, if_pos hc, hc, hv]
  simp
theorem vecAt {v : List Int} (h : VecOk v) {i : Nat} (hi : i < v.length) : 0 ≤ v[i] ∧ v[i] ≤ 1000000000000 := by
  have := h.2 _ (List.getElem_mem hi)
  simpa [cntOk] using this
theorem i_write (s : List Int) (a : Int) (x : List UInt8) (hv : VecOk s) (hx : x.length ≤ 2 ^ 62) : CallD Try.prog id_impl_write [vV s, vI .i64 a, vS (bs x)] [] (wR s a x) [.own 1 ((wS s a x).map inD)] := by
  refine F_impl_write ?_
  have hvl := hv.1
  try (conv => whnf)
  refine Hand.mk [] ?_
  try (conv => whnf)
  refine CallW.d (i_isActor' a) ?_
  try (conv => whnf)
  by_cases ha : actOk a
  · obtain ⟨hs1, hs2⟩ := seen_at hv ha
    have p1 := at_i s a a.toNat (by omega) hs1
    have hc := vecAt hv hs1
    · try (conv => whnf)
      repeat' (first
        | (refine Pick.mk ?_ ?_ ?_; rotate_left; (focus (first | assumption | exact size_bs _)); conv => whnf)
        | (refine br_dec (fun _ => ?_) (fun _ => ?_) <;> first | (exfalso; omega) | contradiction | conv => whnf)
        | (refine br_not ?_; conv => whnf)
        | (refine br_bne (fun _ => ?_) (fun _ => ?_) <;> first | (exfalso; omega) | contradiction | conv => whnf)
        | (refine br_beq (fun _ => ?_) (fun _ => ?_) <;> first | (exfalso; omega) | contradiction | conv => whnf))
      · refine Out.mk false [0, 1, 2, 3, 4] [(0, 1)] ?_
        try (conv => whnf)
        repeat (refine Need.mk ?_ ?_; (focus ((first | exact flat_by _ | exact flat_in _ | exact flat_st _ | exact flat_ts _ | exact flat_bo _ | exact flat_cl rfl))); conv => whnf)
        exact ⟨wErr (by rw [wC, if_pos (.inr (by omega))]) (by omega)⟩
      · refine Out.mk false [0, 1, 2, 3, 4] [(0, 1)] ?_
        try (conv => whnf)
        repeat (refine Need.mk ?_ ?_; (focus ((first | exact flat_by _ | exact flat_in _ | exact flat_st _ | exact flat_ts _ | exact flat_bo _ | exact flat_cl rfl))); conv => whnf)
        exact ⟨wErr (by rw [wC, if_neg (by omega), hs2, if_pos (by omega)]) (by omega)⟩
      · refine Hand.mk [] ?_
        try (conv => whnf)
        refine CallW.d (i_vecCopy s (by omega)) ?_
        try (conv => whnf)
        repeat (first
          | (refine Need.mk ?_ ?_; (focus (omega)); conv => whnf)
          | (refine Pick.mk ?_ ?_ ?_; rotate_left; (focus (first | with_reducible exact set_inI _ _ _ _ | (with_reducible refine get_mapI _ _ _ ?_ ?_ <;> first | omega | (simp; omega)) | (refine wid ?_ ?_ <;> omega))); conv => whnf))
        refine Need.mk ?_ ?_
        · try (conv => whnf)
          repeat (first
            | (refine Need.mk ?_ ?_; (focus (first | omega | (simp; done))); conv => whnf)
            | (refine Pick.mk ?_ ?_ ?_; rotate_left; (focus ((with_reducible refine get_mapI _ _ _ ?_ ?_ <;> first | omega | (simp; omega)))); conv => whnf))
          exact Done.mk trivial
        · try (conv => whnf)
          refine Out.mk false [0, 1, 2, 3, 4] [] ?_
          try (conv => whnf)
          repeat (refine Need.mk ?_ ?_; (focus ((first | exact flat_by _ | exact flat_in _ | exact flat_st _ | exact flat_ts _ | exact flat_bo _ | exact flat_cl rfl))); conv => whnf)
          simp only [List.getElem_set_self, List.length_set]
          exact ⟨wGood (by rw [wC, if_neg (by omega), hs2, if_neg (by omega)]) hvl hs2⟩
  · try (conv => whnf)
    repeat' (first
      | (refine br_dec (fun _ => ?_) (fun _ => ?_) <;> first | (exfalso; omega) | contradiction | conv => whnf)
      | (refine br_not ?_; conv => whnf)
      | (refine br_bne (fun _ => ?_) (fun _ => ?_) <;> first | (exfalso; omega) | contradiction | conv => whnf)
      | (refine br_beq (fun _ => ?_) (fun _ => ?_) <;> first | (exfalso; omega) | contradiction | conv => whnf))
    refine Out.mk false [0, 1, 2, 3, 4] [(0, 1)] ?_
    try (conv => whnf)
    repeat (refine Need.mk ?_ ?_; (focus ((first | exact flat_by _ | exact flat_in _ | exact flat_st _ | exact flat_ts _ | exact flat_bo _ | exact flat_cl rfl))); conv => whnf)
    exact ⟨wErr (by rw [wC, if_pos (.inl ha)]) (by omega)⟩
theorem s_l03Write (s : List Int) (a : Int) (x : List UInt8) (hv : VecOk s) (hx : x.length ≤ 2 ^ 62) : CallD Try.prog id_spec_l03Write [vV s, vI .i64 a, vS (bs x)] [] (wR s a x) [.own 1 ((wS s a x).map inD)] := by
  refine F_spec_l03Write ?_
  have hvl := hv.1
  by_cases ha : actOk a
  · obtain ⟨hs1, hs2⟩ := seen_at hv ha
    have p1 := at_i s a a.toNat (by omega) hs1
    have hc := vecAt hv hs1
    · try (conv => whnf)
      repeat' (first
        | (refine Pick.mk ?_ ?_ ?_; rotate_left; (focus (first | assumption | exact size_bs _)); conv => whnf)
        | (refine br_dec (fun _ => ?_) (fun _ => ?_) <;> first | (exfalso; omega) | contradiction | conv => whnf)
        | (refine br_not ?_; conv => whnf)
        | (refine br_bne (fun _ => ?_) (fun _ => ?_) <;> first | (exfalso; omega) | contradiction | conv => whnf)
        | (refine br_beq (fun _ => ?_) (fun _ => ?_) <;> first | (exfalso; omega) | contradiction | conv => whnf))
      · refine Out.mk false [0, 1, 2, 3, 4] [(0, 1)] ?_
        try (conv => whnf)
        repeat (refine Need.mk ?_ ?_; (focus ((first | exact flat_by _ | exact flat_in _ | exact flat_st _ | exact flat_ts _ | exact flat_bo _ | exact flat_cl rfl))); conv => whnf)
        exact ⟨wErr (by rw [wC, if_pos (.inr (by omega))]) (by omega)⟩
      · refine Out.mk false [0, 1, 2, 3, 4] [(0, 1)] ?_
        try (conv => whnf)
        repeat (refine Need.mk ?_ ?_; (focus ((first | exact flat_by _ | exact flat_in _ | exact flat_st _ | exact flat_ts _ | exact flat_bo _ | exact flat_cl rfl))); conv => whnf)
        exact ⟨wErr (by rw [wC, if_neg (by omega), hs2, if_pos (by omega)]) (by omega)⟩
      · refine Hand.mk [] ?_
        try (conv => whnf)
        refine CallW.d (s_l02Copy s (by omega)) ?_
        try (conv => whnf)
        repeat (first
          | (refine Need.mk ?_ ?_; (focus (omega)); conv => whnf)
          | (refine Pick.mk ?_ ?_ ?_; rotate_left; (focus (first | with_reducible exact set_inI _ _ _ _ | (with_reducible refine get_mapI _ _ _ ?_ ?_ <;> first | omega | (simp; omega)) | (refine wid ?_ ?_ <;> omega))); conv => whnf))
        refine Need.mk ?_ ?_
        · try (conv => whnf)
          repeat (first
            | (refine Need.mk ?_ ?_; (focus (first | omega | (simp; done))); conv => whnf)
            | (refine Pick.mk ?_ ?_ ?_; rotate_left; (focus ((with_reducible refine get_mapI _ _ _ ?_ ?_ <;> first | omega | (simp; omega)))); conv => whnf))
          exact Done.mk trivial
        · try (conv => whnf)
          refine Out.mk false [0, 1, 2, 3, 4] [] ?_
          try (conv => whnf)
          repeat (refine Need.mk ?_ ?_; (focus ((first | exact flat_by _ | exact flat_in _ | exact flat_st _ | exact flat_ts _ | exact flat_bo _ | exact flat_cl rfl))); conv => whnf)
          simp only [List.getElem_set_self, List.length_set]
          exact ⟨wGood (by rw [wC, if_neg (by omega), hs2, if_neg (by omega)]) hvl hs2⟩
  · try (conv => whnf)
    repeat' (first
      | (refine br_dec (fun _ => ?_) (fun _ => ?_) <;> first | (exfalso; omega) | contradiction | conv => whnf)
      | (refine br_not ?_; conv => whnf)
      | (refine br_bne (fun _ => ?_) (fun _ => ?_) <;> first | (exfalso; omega) | contradiction | conv => whnf)
      | (refine br_beq (fun _ => ?_) (fun _ => ?_) <;> first | (exfalso; omega) | contradiction | conv => whnf))
    all_goals
      refine Out.mk false [0, 1, 2, 3, 4] [(0, 1)] ?_
      try (conv => whnf)
      repeat (refine Need.mk ?_ ?_; (focus ((first | exact flat_by _ | exact flat_in _ | exact flat_st _ | exact flat_ts _ | exact flat_bo _ | exact flat_cl rfl))); conv => whnf)
    all_goals exact ⟨wErr (by rw [wC, if_pos (.inl ha)]) (by omega)⟩
/-- What writing to a state gives back. -/
noncomputable def mC (s : List Int) (l : List EntV) (a : Int) (x : List UInt8) : Int := if StOk s l then wC s a x else 1
noncomputable def mS (s : List Int) (l : List EntV) (a : Int) (x : List UInt8) : List Int := if mC s l a x = 0 then wS s a x else []
noncomputable def mE (s : List Int) (l : List EntV) (a : Int) (x : List UInt8) : List EntV := if mC s l a x = 0 then [wE s a x] else []
noncomputable abbrev mR (s : List Int) (l : List EntV) (a : Int) (x : List UInt8) : SV := .tup [(true, [.os 0 1 0 (mS s l a x).length, .os 1 3 0 (mE s l a x).length]), (false, [cI (mC s l a x)])]
noncomputable abbrev mRows (s : List Int) (l : List EntV) (a : Int) (x : List UInt8) : List Row := [.own 1 ((mS s l a x).map inD), .own 3 ((mE s l a x).map entD)]
theorem mErr {s : List Int} {l : List EntV} {a : Int} {x : List UInt8} {c : Int} (hc : mC s l a x = c) (h0 : c ≠ 0) : SV.tup [(true, [.os 0 1 0 0, .os 1 3 0 0]), (false, [cI c])] = mR s l a x ∧ [Row.own 1 [], Row.own 3 []] = mRows s l a x := by
  subst hc
  rw [mR, mRows, mS, mE, if_neg h0, if_neg h0]
  exact ⟨rfl, rfl⟩
theorem mGood {s : List Int} {l : List EntV} {a : Int} {x : List UInt8} (hs : StOk s l) (hc : wC s a x = 0) : SV.tup [(true, [.os 0 1 0 (wS s a x).length, .os 1 3 0 1]), (false, [cI 0])] = mR s l a x ∧ [Row.own 1 ((wS s a x).map inD), Row.own 3 [entD (wE s a x)]] = mRows s l a x := by
  have h : mC s l a x = 0 := by rw [mC, if_pos hs, hc]
  rw [mR, mRows, mS, mE, if_pos h, if_pos h, h]
  exact ⟨rfl, rfl⟩
theorem i_MultiWrite (s : List Int) (l : List EntV) (a : Int) (x : List UInt8) (hl : l.length ≤ 2 ^ 62) (hm : ∀ e ∈ l, e.x.length ≤ 2 ^ 62) (hx : x.length ≤ 1048576) :
    CallD Try.prog id_impl_MultiWrite [vM s l, vI .i64 a, vS (bs x)] [] (mR s l a x) (mRows s l a x) := by
  refine F_impl_MultiWrite ?_
  try (conv => whnf)
  repeat' (first
    | (refine Pick.mk ?_ ?_ ?_; rotate_left; (focus (exact size_bs _)); conv => whnf)
    | (refine br_dec (fun _ => ?_) (fun _ => ?_) <;> first | (exfalso; omega) | contradiction | conv => whnf)
    | (refine br_not ?_; conv => whnf)
    | (refine br_bne (fun _ => ?_) (fun _ => ?_) <;> first | (exfalso; omega) | contradiction | conv => whnf)
    | (refine br_beq (fun _ => ?_) (fun _ => ?_) <;> first | (exfalso; omega) | contradiction | conv => whnf))
  refine Hand.mk [] ?_
  try (conv => whnf)
  refine CallW.d (i_stateOK s l hl hm) ?_
  try (conv => whnf)
  by_cases h : StOk s l
  · try (conv => whnf)
    repeat' (first
      | (refine br_dec (fun _ => ?_) (fun _ => ?_) <;> first | (exfalso; omega) | contradiction | conv => whnf)
      | (refine br_not ?_; conv => whnf)
      | (refine br_bne (fun _ => ?_) (fun _ => ?_) <;> first | (exfalso; omega) | contradiction | conv => whnf)
      | (refine br_beq (fun _ => ?_) (fun _ => ?_) <;> first | (exfalso; omega) | contradiction | conv => whnf))
    refine Hand.mk [] ?_
    try (conv => whnf)
    refine CallW.d (i_write s a x h.1 (by omega)) ?_
    try (conv => whnf)
    by_cases hc : wC s a x = 0
    · rw [hc]
      try (conv => whnf)
      repeat' (first
        | (refine Pick.mk ?_ ?_ ?_; rotate_left; (focus ((simp only [chunks]; rfl))); conv => whnf)
        | (refine br_dec (fun _ => ?_) (fun _ => ?_) <;> first | (exfalso; omega) | contradiction | conv => whnf)
        | (refine br_not ?_; conv => whnf)
        | (refine br_bne (fun _ => ?_) (fun _ => ?_) <;> first | (exfalso; omega) | contradiction | conv => whnf)
        | (refine br_beq (fun _ => ?_) (fun _ => ?_) <;> first | (exfalso; omega) | contradiction | conv => whnf))
      refine Out.mk false [0, 1, 2, 3, 4] [] ?_
      try (conv => whnf)
      repeat (refine Need.mk ?_ ?_; (focus ((first | exact flat_by _ | exact flat_in _ | exact flat_st _ | exact flat_ts _ | exact flat_bo _ | exact flat_cl rfl))); conv => whnf)
      exact ⟨mGood h hc⟩
    · try (conv => whnf)
      repeat' (first
        | (refine br_dec (fun _ => ?_) (fun _ => ?_) <;> first | (exfalso; omega) | contradiction | conv => whnf)
        | (refine br_not ?_; conv => whnf)
        | (refine br_bne (fun _ => ?_) (fun _ => ?_) <;> first | (exfalso; omega) | contradiction | conv => whnf)
        | (refine br_beq (fun _ => ?_) (fun _ => ?_) <;> first | (exfalso; omega) | contradiction | conv => whnf))
      refine Out.mk false [0, 1, 2, 3, 4] [(0, 1), (1, 3)] ?_
      try (conv => whnf)
      repeat (refine Need.mk ?_ ?_; (focus ((first | exact flat_by _ | exact flat_in _ | exact flat_st _ | exact flat_ts _ | exact flat_bo _ | exact flat_cl rfl))); conv => whnf)
      exact ⟨mErr (by rw [mC, if_pos h]) hc⟩
  · try (conv => whnf)
    repeat' (first
      | (refine br_dec (fun _ => ?_) (fun _ => ?_) <;> first | (exfalso; omega) | contradiction | conv => whnf)
      | (refine br_not ?_; conv => whnf)
      | (refine br_bne (fun _ => ?_) (fun _ => ?_) <;> first | (exfalso; omega) | contradiction | conv => whnf)
      | (refine br_beq (fun _ => ?_) (fun _ => ?_) <;> first | (exfalso; omega) | contradiction | conv => whnf))
    refine Out.mk false [0, 1, 2, 3, 4] [(0, 1), (1, 3)] ?_
    try (conv => whnf)
    repeat (refine Need.mk ?_ ?_; (focus ((first | exact flat_by _ | exact flat_in _ | exact flat_st _ | exact flat_ts _ | exact flat_bo _ | exact flat_cl rfl))); conv => whnf)
    exact ⟨mErr (by rw [mC, if_neg h]) (by omega)⟩
theorem s_MultiWrite (s : List Int) (l : List EntV) (a : Int) (x : List UInt8) (hl : l.length ≤ 2 ^ 62) (hm : ∀ e ∈ l, e.x.length ≤ 2 ^ 62) (hx : x.length ≤ 1048576) :
    CallD Try.prog id_spec_MultiWrite [vM s l, vI .i64 a, vS (bs x)] [] (mR s l a x) (mRows s l a x) := by
  refine F_spec_MultiWrite ?_
  try (conv => whnf)
  refine Hand.mk [] ?_
  try (conv => whnf)
  refine CallW.d (s_l03EntriesOK s l hl hm) ?_
  try (conv => whnf)
  by_cases h : StOk s l
  · try (conv => whnf)
    repeat' (first
      | (refine br_dec (fun _ => ?_) (fun _ => ?_) <;> first | (exfalso; omega) | contradiction | conv => whnf)
      | (refine br_not ?_; conv => whnf)
      | (refine br_bne (fun _ => ?_) (fun _ => ?_) <;> first | (exfalso; omega) | contradiction | conv => whnf)
      | (refine br_beq (fun _ => ?_) (fun _ => ?_) <;> first | (exfalso; omega) | contradiction | conv => whnf))
    refine Hand.mk [] ?_
    try (conv => whnf)
    refine CallW.d (s_l03Write s a x h.1 (by omega)) ?_
    try (conv => whnf)
    by_cases hc : wC s a x = 0
    · rw [hc]
      try (conv => whnf)
      repeat' (first
        | (refine Pick.mk ?_ ?_ ?_; rotate_left; (focus ((simp only [chunks]; rfl))); conv => whnf)
        | (refine br_dec (fun _ => ?_) (fun _ => ?_) <;> first | (exfalso; omega) | contradiction | conv => whnf)
        | (refine br_not ?_; conv => whnf)
        | (refine br_bne (fun _ => ?_) (fun _ => ?_) <;> first | (exfalso; omega) | contradiction | conv => whnf)
        | (refine br_beq (fun _ => ?_) (fun _ => ?_) <;> first | (exfalso; omega) | contradiction | conv => whnf))
      refine Out.mk false [0, 1, 2, 3, 4] [] ?_
      try (conv => whnf)
      repeat (refine Need.mk ?_ ?_; (focus ((first | exact flat_by _ | exact flat_in _ | exact flat_st _ | exact flat_ts _ | exact flat_bo _ | exact flat_cl rfl))); conv => whnf)
      exact ⟨mGood h hc⟩
    · try (conv => whnf)
      repeat' (first
        | (refine br_dec (fun _ => ?_) (fun _ => ?_) <;> first | (exfalso; omega) | contradiction | conv => whnf)
        | (refine br_not ?_; conv => whnf)
        | (refine br_bne (fun _ => ?_) (fun _ => ?_) <;> first | (exfalso; omega) | contradiction | conv => whnf)
        | (refine br_beq (fun _ => ?_) (fun _ => ?_) <;> first | (exfalso; omega) | contradiction | conv => whnf))
      refine Out.mk false [0, 1, 2, 3, 4] [(0, 1), (1, 3)] ?_
      try (conv => whnf)
      repeat (refine Need.mk ?_ ?_; (focus ((first | exact flat_by _ | exact flat_in _ | exact flat_st _ | exact flat_ts _ | exact flat_bo _ | exact flat_cl rfl))); conv => whnf)
      exact ⟨mErr (by rw [mC, if_pos h]) hc⟩
  · try (conv => whnf)
    repeat' (first
      | (refine br_dec (fun _ => ?_) (fun _ => ?_) <;> first | (exfalso; omega) | contradiction | conv => whnf)
      | (refine br_not ?_; conv => whnf)
      | (refine br_bne (fun _ => ?_) (fun _ => ?_) <;> first | (exfalso; omega) | contradiction | conv => whnf)
      | (refine br_beq (fun _ => ?_) (fun _ => ?_) <;> first | (exfalso; omega) | contradiction | conv => whnf))
    refine Out.mk false [0, 1, 2, 3, 4] [(0, 1), (1, 3)] ?_
    try (conv => whnf)
    repeat (refine Need.mk ?_ ?_; (focus ((first | exact flat_by _ | exact flat_in _ | exact flat_st _ | exact flat_ts _ | exact flat_bo _ | exact flat_cl rfl))); conv => whnf)
    exact ⟨mErr (by rw [mC, if_neg h]) (by omega)⟩
end Go.Proofs.Ytoklfidamhigcaa.D
