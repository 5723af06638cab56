/- What the law of bytes needs: what comes back. -/
import Derived.Test.YtoklfidamhigcaaByA
import Derived.Test.YtoklfidamhigcaaCod4
import Derived.Test.YtoklfidamhigcaaCod6
namespace Go.Proofs.Ytoklfidamhigcaa.D
open Go.RowKit
set_option maxRecDepth 100000
set_option maxHeartbeats 4000000
set_option linter.unusedVariables false
set_option linter.unusedSimpArgs false

theorem ptC_inv {ts : List (List UInt8)} (h : ptC ts = 0) : ptB ts = putT ts ∧ ts.length ≤ 4096 ∧ total ts ≤ 1048576 ∧ (putT ts).length ≤ 1048576 := by
  have h0 := h
  rw [ptC] at h
  split at h
  · omega
  · rename_i g
    rw [ptB, if_pos h0]
    exact ⟨rfl, by omega, by omega, by omega⟩
theorem gt_ok {ts : List (List UInt8)} (h : ptC ts = 0) : CallD Try.prog id_impl_GetTexts [vY (ptB ts)] [] (.tup [(false, [.os 0 1 0 ts.length]), (false, [cI 0])]) [.own 1 (ts.map tsD)] := by
  obtain ⟨e, h1, h2, h3⟩ := ptC_inv h
  have hg := getT_put (ts := ts) (by simp only [MaxB]; omega) h1 [] []
  simp at hg
  have hc : gtC (putT ts) = 0 := by rw [gtC, if_neg (by omega), hg]; simp
  have hT : gtT (putT ts) = ts := by rw [gtT, if_pos hc, hg]
  have := i_GetTexts (putT ts) (by omega)
  rw [gtR, hc, hT] at this
  rw [e]
  exact this
theorem gt_bad {l : List UInt8} (hl : l.length ≤ 2 ^ 47) (h : gtC l = 3) : CallD Try.prog id_impl_GetTexts [vY l] [] (.tup [(false, [.os 0 1 0 0]), (false, [cI 3])]) [.own 1 []] := by
  have hT : gtT l = [] := by rw [gtT, if_neg (by omega)]
  have := i_GetTexts l hl
  rw [gtR, h, hT] at this
  exact this
theorem gt_more {ts : List (List UInt8)} (h : ptC ts = 0) (z : UInt8) : gtC (ptB ts ++ [z]) = (if (ptB ts).length < 1048576 then 3 else 2) := by
  obtain ⟨e, h1, h2, h3⟩ := ptC_inv h
  have hg := getT_put (ts := ts) (by simp only [MaxB]; omega) h1 [] [z]
  simp at hg
  rw [e]
  split
  · rw [gtC, if_neg (by simp; omega), hg]; simp
  · rw [gtC, if_pos (by simp; omega)]
theorem gt_less {ts : List (List UInt8)} (h : ptC ts = 0) : gtC ((ptB ts).take ((ptB ts).length - 1)) = 3 := by
  obtain ⟨e, h1, h2, h3⟩ := ptC_inv h
  have hg := getT_put (ts := ts) (by simp only [MaxB]; omega) h1 [] []
  simp at hg
  rw [e]
  have hpos := (getT_inv hg).1
  rw [gtC, if_neg (by simp; omega)]
  split
  · rename_i us b hb
    split
    · rename_i hbl
      have := getT_mono (m := (putT ts).drop ((putT ts).length - 1)) hb
      rw [List.take_append_drop, hg] at this
      simp only [Option.some.injEq, Prod.mk.injEq] at this
      simp at hbl
      omega
    · rfl
  · rfl
theorem gr_ok {xs : List Int} (h : prC xs = 0) (hl : (putR xs).length ≤ 1048576) : CallD Try.prog id_impl_GetRuns [vY (prB xs)] [] (.tup [(false, [.os 0 1 0 xs.length]), (false, [cI 0])]) [.own 1 (xs.map inD)] := by
  obtain ⟨h1, h2⟩ := gr_put h hl
  have := i_GetRuns (putR xs) (by omega)
  rw [grR, h1, h2] at this
  rw [prB, if_pos h]
  exact this
theorem gr_bad {l : List UInt8} (hl : l.length ≤ 2 ^ 47) (h : grC l = 3) : CallD Try.prog id_impl_GetRuns [vY l] [] (.tup [(false, [.os 0 1 0 0]), (false, [cI 3])]) [.own 1 []] := by
  have hT : grT l = [] := by rw [grT, if_neg (by omega)]
  have := i_GetRuns l hl
  rw [grR, h, hT] at this
  exact this
theorem prB_len {xs : List Int} (h : prC xs = 0) (hl : xs.length ≤ 60) : (putR xs).length ≤ 2000 := by
  have hx : ∀ x ∈ xs, inM x := by
    rw [prC] at h
    split at h
    · omega
    · split at h
      · assumption
      · omega
  have h1 := putRs_len _ xs (Nat.le_refl _) hx (by omega)
  have h2 := put_len (n := xs.length) (by omega)
  rw [putR, List.length_append]
  omega
theorem l_sameInts (a : List Int) (ha : a.length ≤ 2 ^ 39) : CallD Try.prog id_laws_sameInts [vN a, vN a] [] (vB true) [] := by
  refine F_laws_sameInts ?_
  try (conv => whnf)
  repeat' (first
    | (refine Pick.mk ?_ ?_ ?_; rotate_left; (focus (exact List.length_map _)); conv => whnf)
    | (refine SeqJ.thru ?_; conv => whnf)
    | (refine br_dec (fun _ => ?_) (fun _ => ?_) <;> first | (exfalso; omega) | contradiction | conv => whnf)
    | (refine br_not ?_; conv => whnf)
    | (refine br_bne (fun _ => ?_) (fun _ => ?_) <;> first | (exfalso; omega) | contradiction | conv => whnf)
    | (refine br_beq (fun _ => ?_) (fun _ => ?_) <;> first | (exfalso; omega) | contradiction | conv => whnf))
  refine LoopE.mk (fun i : Nat => mk [(0, vN a), (1, vN a), (5, vI .i64 i)] []) (fun i => i ≤ a.length) (fun i => a.length - i) 0 (by simp) (LeX.of ?_) ?_
  · try (conv => whnf)
    repeat (refine Need.mk ?_ ?_; (focus (first | omega | (simp; done))); conv => whnf)
    trivial
  · intro i hi
    try (conv => whnf)
    repeat' (first
      | (refine Pick.mk ?_ ?_ ?_; rotate_left; (focus (first | exact List.length_map _ | (refine wid ?_ ?_ <;> omega) | (refine pick_nat _ _ _ ?_; omega))); conv => whnf)
      | (refine SeqJ.thru ?_; conv => whnf)
      | (refine br_dec (fun _ => ?_) (fun _ => ?_) <;> first | (exfalso; omega) | contradiction | conv => whnf)
      | (refine br_not ?_; conv => whnf)
      | (refine br_bne (fun _ => ?_) (fun _ => ?_) <;> first | (exfalso; omega) | contradiction | conv => whnf)
      | (refine br_beq (fun _ => ?_) (fun _ => ?_) <;> first | (exfalso; omega) | contradiction | conv => whnf))
    · refine Pick.mk (i + 1) (by constructor <;> first | omega | (simp only []; omega)) (LeX.of ?_)
      try (conv => whnf)
      repeat (refine Need.mk ?_ ?_; (focus (first | omega | (simp; done))); conv => whnf)
      trivial
    · refine Out.mk true [] [] ?_
      try (conv => whnf)
      exact ⟨rfl, rfl⟩
theorem l_sameTexts (a : List (List UInt8)) (ha : a.length ≤ 2 ^ 39) : CallD Try.prog id_laws_sameTexts [vTs a, vTs a] [] (vB true) [] := by
  refine F_laws_sameTexts ?_
  try (conv => whnf)
  repeat' (first
    | (refine Pick.mk ?_ ?_ ?_; rotate_left; (focus (exact List.length_map _)); conv => whnf)
    | (refine SeqJ.thru ?_; conv => whnf)
    | (refine br_dec (fun _ => ?_) (fun _ => ?_) <;> first | (exfalso; omega) | contradiction | conv => whnf)
    | (refine br_not ?_; conv => whnf)
    | (refine br_bne (fun _ => ?_) (fun _ => ?_) <;> first | (exfalso; omega) | contradiction | conv => whnf)
    | (refine br_beq (fun _ => ?_) (fun _ => ?_) <;> first | (exfalso; omega) | contradiction | conv => whnf))
  refine LoopE.mk (fun i : Nat => mk [(0, vTs a), (1, vTs a), (5, vI .i64 i)] []) (fun i => i ≤ a.length) (fun i => a.length - i) 0 (by simp) (LeX.of ?_) ?_
  · try (conv => whnf)
    repeat (refine Need.mk ?_ ?_; (focus (first | omega | (simp; done))); conv => whnf)
    trivial
  · intro i hi
    try (conv => whnf)
    repeat' (first
      | (refine Pick.mk ?_ ?_ ?_; rotate_left; (focus (first | exact bs_beq _ _ | exact List.length_map _ | (refine wid ?_ ?_ <;> omega) | (refine pick_nat _ _ _ ?_; omega))); conv => whnf)
      | (refine SeqJ.thru ?_; conv => whnf)
      | (refine br_dec (fun _ => ?_) (fun _ => ?_) <;> first | (exfalso; omega) | contradiction | conv => whnf)
      | (refine br_not ?_; conv => whnf)
      | (refine br_bne (fun _ => ?_) (fun _ => ?_) <;> first | (exfalso; omega) | contradiction | conv => whnf)
      | (refine br_beq (fun _ => ?_) (fun _ => ?_) <;> first | (exfalso; omega) | contradiction | conv => whnf))
    · refine Pick.mk (i + 1) (by constructor <;> first | omega | (simp only []; omega)) (LeX.of ?_)
      try (conv => whnf)
      repeat (refine Need.mk ?_ ?_; (focus (first | omega | (simp; done))); conv => whnf)
      trivial
    · refine Out.mk true [] [] ?_
      try (conv => whnf)
      exact ⟨rfl, rfl⟩
end Go.Proofs.Ytoklfidamhigcaa.D
