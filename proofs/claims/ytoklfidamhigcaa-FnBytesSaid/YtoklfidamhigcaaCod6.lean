/- Lists of texts read from whole bytes, by both. -/
import Derived.Test.YtoklfidamhigcaaCod5
namespace Go.Proofs.Ytoklfidamhigcaa.D
open Go.RowKit
set_option maxRecDepth 100000
set_option maxHeartbeats 4000000
set_option linter.unusedVariables false
set_option linter.unusedSimpArgs false

def gtC (l : List UInt8) : Int := if l.length > 1048576 then 2 else match getT l 0 with | some (_, b) => if b = l.length then 0 else 3 | none => 3
def gtT (l : List UInt8) : List (List UInt8) := if gtC l = 0 then (match getT l 0 with | some (ts, _) => ts | none => []) else []
abbrev gtR (l : List UInt8) : SV := .tup [(false, [.os 0 1 0 (gtT l).length]), (false, [cI (gtC l)])]
theorem gtErr {l : List UInt8} {c : Int} (hc : gtC l = c) (h0 : c ≠ 0) : SV.tup [(false, [.os 0 1 0 0]), (false, [cI c])] = gtR l ∧ [Row.own 1 []] = [Row.own 1 ((gtT l).map tsD)] := by
  subst hc
  rw [gtR, gtT, if_neg h0]
  exact ⟨rfl, rfl⟩
theorem gtGood {l : List UInt8} {ts : List (List UInt8)} (hc : gtC l = 0) (h : gtT l = ts) : SV.tup [(false, [.os 0 1 0 ts.length]), (false, [cI 0])] = gtR l ∧ [Row.own 1 (ts.map tsD)] = [Row.own 1 ((gtT l).map tsD)] := by
  subst h
  rw [gtR, hc]
  exact ⟨rfl, rfl⟩
theorem i_GetTexts (l : List UInt8) (hl : l.length ≤ 2 ^ 47) : CallD Try.prog id_impl_GetTexts [vY l] [] (gtR l) [.own 1 ((gtT l).map tsD)] := by
  refine F_impl_GetTexts ?_
  try (conv => whnf)
  repeat' (first
    | (refine Pick.mk ?_ ?_ ?_; rotate_left; (focus (exact List.length_map _)); conv => whnf)
    | (refine SeqJ.thru ?_; conv => whnf)
    | (refine br_dec (fun _ => ?_) (fun _ => ?_) <;> first | (exfalso; omega) | contradiction | conv => whnf)
    | (refine br_not ?_; conv => whnf)
    | (refine br_bne (fun _ => ?_) (fun _ => ?_) <;> first | (exfalso; omega) | contradiction | conv => whnf)
    | (refine br_beq (fun _ => ?_) (fun _ => ?_) <;> first | (exfalso; omega) | contradiction | conv => whnf))
  · refine Out.mk false [0, 1, 2, 3, 4] [(0, 1)] ?_
    try (conv => whnf)
    repeat (refine Need.mk ?_ ?_; (focus ((first | exact flat_by _ | exact flat_in _ | exact flat_st _ | exact flat_ts _ | exact flat_bo _ | exact flat_cl rfl))); conv => whnf)
    exact ⟨gtErr (l := l) (if_pos (by omega)) (by omega)⟩
  · refine Hand.mk [] ?_
    try (conv => whnf)
    refine CallW.n (i_texts l 0 (by omega) (by omega)) ?_
    rintro _ _ ⟨b, bad, ts, rfl, rfl, hb, h⟩
    cases hT : getT l 0 with
    | none =>
      rw [hT] at h
      dsimp only at h
      subst h
      try (conv => whnf)
      repeat (refine SeqJ.thru ?_; conv => whnf)
      refine Out.mk false [0, 1, 2, 3, 4] [(0, 1)] ?_
      try (conv => whnf)
      repeat (refine Need.mk ?_ ?_; (focus ((first | exact flat_by _ | exact flat_in _ | exact flat_st _ | exact flat_ts _ | exact flat_bo _ | exact flat_cl rfl))); conv => whnf)
      exact ⟨gtErr (l := l) (by rw [gtC, if_neg (by omega), hT]) (by omega)⟩
    | some r =>
      obtain ⟨us, c⟩ := r
      rw [hT] at h
      dsimp only at h
      obtain ⟨rfl, rfl, rfl⟩ := h
      try (conv => whnf)
      repeat' (first
        | (refine Pick.mk ?_ ?_ ?_; rotate_left; (focus (exact List.length_map _)); conv => whnf)
        | (refine SeqJ.thru ?_; conv => whnf)
        | (refine br_dec (fun _ => ?_) (fun _ => ?_) <;> first | (exfalso; omega) | contradiction | conv => whnf)
        | (refine br_not ?_; conv => whnf)
        | (refine br_bne (fun _ => ?_) (fun _ => ?_) <;> first | (exfalso; omega) | contradiction | conv => whnf)
        | (refine br_beq (fun _ => ?_) (fun _ => ?_) <;> first | (exfalso; omega) | contradiction | conv => whnf))
      rotate_left
      · refine Out.mk false [0, 1, 2, 3, 4] [(0, 1)] ?_
        try (conv => whnf)
        repeat (refine Need.mk ?_ ?_; (focus ((first | exact flat_by _ | exact flat_in _ | exact flat_st _ | exact flat_ts _ | exact flat_bo _ | exact flat_cl rfl))); conv => whnf)
        have hne : b ≠ l.length := by omega
        exact ⟨gtErr (l := l) (by rw [gtC, if_neg (by omega), hT]; exact if_neg hne) (by omega)⟩
      · refine Out.mk false [0, 1, 2, 3, 4] [] ?_
        try (conv => whnf)
        repeat (refine Need.mk ?_ ?_; (focus ((first | exact flat_by _ | exact flat_in _ | exact flat_st _ | exact flat_ts _ | exact flat_bo _ | exact flat_cl rfl))); conv => whnf)
        have he : b = l.length := by omega
        have hc : gtC l = 0 := by rw [gtC, if_neg (by omega), hT]; exact if_pos he
        exact ⟨gtGood (l := l) hc (by rw [gtT, if_pos hc, hT])⟩
theorem s_GetTexts (l : List UInt8) (hl : l.length ≤ 2 ^ 47) : CallD Try.prog id_spec_GetTexts [vY l] [] (gtR l) [.own 1 ((gtT l).map tsD)] := by
  refine F_spec_GetTexts ?_
  try (conv => whnf)
  repeat' (first
    | (refine Pick.mk ?_ ?_ ?_; rotate_left; (focus (first | exact List.length_map _ | (simp only [chunks]; rfl))); conv => whnf)
    | (refine SeqJ.thru ?_; conv => whnf)
    | (refine br_dec (fun _ => ?_) (fun _ => ?_) <;> first | (exfalso; omega) | contradiction | conv => whnf)
    | (refine br_not ?_; conv => whnf)
    | (refine br_bne (fun _ => ?_) (fun _ => ?_) <;> first | (exfalso; omega) | contradiction | conv => whnf)
    | (refine br_beq (fun _ => ?_) (fun _ => ?_) <;> first | (exfalso; omega) | contradiction | conv => whnf))
  · refine Out.mk false [0, 1, 2, 3, 4] [(0, 1)] ?_
    try (conv => whnf)
    repeat (refine Need.mk ?_ ?_; (focus ((first | exact flat_by _ | exact flat_in _ | exact flat_st _ | exact flat_ts _ | exact flat_bo _ | exact flat_cl rfl))); conv => whnf)
    exact ⟨gtErr (l := l) (if_pos (by omega)) (by omega)⟩
  · refine Hand.mk [] ?_
    try (conv => whnf)
    refine CallW.n (s_texts l 0 (by omega) (by omega)) ?_
    rintro _ _ ⟨b, bad, ts, rfl, rfl, hb, h⟩
    cases hT : getT l 0 with
    | none =>
      rw [hT] at h
      dsimp only at h
      subst h
      try (conv => whnf)
      repeat (first
        | (refine Pick.mk ?_ ?_ ?_; rotate_left; (focus ((simp only [chunks]; rfl))); conv => whnf)
        | (refine SeqJ.thru ?_; conv => whnf))
      refine Out.mk false [0, 1, 2, 3, 4] [(0, 1)] ?_
      try (conv => whnf)
      repeat (refine Need.mk ?_ ?_; (focus ((first | exact flat_by _ | exact flat_in _ | exact flat_st _ | exact flat_ts _ | exact flat_bo _ | exact flat_cl rfl))); conv => whnf)
      exact ⟨gtErr (l := l) (by rw [gtC, if_neg (by omega), hT]) (by omega)⟩
    | some r =>
      obtain ⟨us, c⟩ := r
      rw [hT] at h
      dsimp only at h
      obtain ⟨rfl, rfl, rfl⟩ := h
      try (conv => whnf)
      repeat' (first
        | (refine Pick.mk ?_ ?_ ?_; rotate_left; (focus (first | exact List.length_map _ | (simp only [chunks]; rfl))); conv => whnf)
        | (refine SeqJ.thru ?_; conv => whnf)
        | (refine br_dec (fun _ => ?_) (fun _ => ?_) <;> first | (exfalso; omega) | contradiction | conv => whnf)
        | (refine br_not ?_; conv => whnf)
        | (refine br_bne (fun _ => ?_) (fun _ => ?_) <;> first | (exfalso; omega) | contradiction | conv => whnf)
        | (refine br_beq (fun _ => ?_) (fun _ => ?_) <;> first | (exfalso; omega) | contradiction | conv => whnf))
      rotate_left
      · refine Out.mk false [0, 1, 2, 3, 4] [(0, 1)] ?_
        try (conv => whnf)
        repeat (refine Need.mk ?_ ?_; (focus ((first | exact flat_by _ | exact flat_in _ | exact flat_st _ | exact flat_ts _ | exact flat_bo _ | exact flat_cl rfl))); conv => whnf)
        have hne : b ≠ l.length := by omega
        exact ⟨gtErr (l := l) (by rw [gtC, if_neg (by omega), hT]; exact if_neg hne) (by omega)⟩
      · refine Out.mk false [0, 1, 2, 3, 4] [] ?_
        try (conv => whnf)
        repeat (refine Need.mk ?_ ?_; (focus ((first | exact flat_by _ | exact flat_in _ | exact flat_st _ | exact flat_ts _ | exact flat_bo _ | exact flat_cl rfl))); conv => whnf)
        have he : b = l.length := by omega
        have hc : gtC l = 0 := by rw [gtC, if_neg (by omega), hT]; exact if_pos he
        exact ⟨gtGood (l := l) hc (by rw [gtT, if_pos hc, hT])⟩
end Go.Proofs.Ytoklfidamhigcaa.D
