/- What the laws do with texts: compared, marked. -/
import Derived.Test.YtoklfidamhigcaaLawBy
import Derived.Test.YtoklfidamhigcaaPRun
namespace Go.Proofs.Ytoklfidamhigcaa.D
open Go.RowKit
set_option maxRecDepth 100000
set_option maxHeartbeats 4000000
set_option linter.unusedVariables false
set_option linter.unusedSimpArgs false

def digs (k : Nat) (acc : List UInt8) : List UInt8 := if k = 0 then acc else digs (k / 10) (u8 ((48 + k % 10 : Nat) : Int) :: acc)
termination_by k
decreasing_by omega
/-- A mark. -/
def markT (k : Int) : List UInt8 := 109 :: digs k.toNat []
theorem l_markText (k : Int) (h0 : 0 < k) (h1 : k ≤ 2 ^ 60) : CallD Try.prog id_laws_markText [vI .i64 k] [] (vS (bs (markT k))) [] := by
  refine F_laws_markText ?_
  obtain ⟨k, rfl⟩ : ∃ n : Nat, k = n := ⟨k.toNat, by omega⟩
  try (conv => whnf)
  repeat' (first
    | (refine SeqJ.thru ?_; conv => whnf)
    | (refine br_dec (fun _ => ?_) (fun _ => ?_) <;> first | (exfalso; omega) | contradiction | conv => whnf)
    | (refine br_not ?_; conv => whnf)
    | (refine br_bne (fun _ => ?_) (fun _ => ?_) <;> first | (exfalso; omega) | contradiction | conv => whnf)
    | (refine br_beq (fun _ => ?_) (fun _ => ?_) <;> first | (exfalso; omega) | contradiction | conv => whnf))
  refine LoopE.mk (fun (x : Nat × List UInt8) => mk [(0, vI .i64 x.1), (3, vS (bs x.2))] []) (fun x => x.1 + x.2.length ≤ k ∧ digs x.1 x.2 = digs k []) (fun x => x.1) (k, []) ⟨by simp, rfl⟩ (LeX.of ?_) ?_
  · try (conv => whnf)
    repeat (refine Need.mk ?_ ?_; (focus (first | omega | (simp; done))); conv => whnf)
    trivial
  · rintro ⟨n, out⟩ ⟨h2, h3⟩
    dsimp only at h2 h3 ⊢
    try (conv => whnf)
    repeat' (first
      | (refine Need.mk ?_ ?_; (focus (first | omega | (simp; omega))); conv => whnf)
      | (refine Pick.mk ?_ ?_ ?_; rotate_left; (focus (first | with_reducible exact bs_app _ _ | (simp only [chunks]; rfl) | (refine wid ?_ ?_ <;> omega) | (refine tmodn ?_; omega) | exact wbyte _)); conv => whnf)
      | (refine br_dec (fun _ => ?_) (fun _ => ?_) <;> first | (exfalso; omega) | contradiction | conv => whnf)
      | (refine br_not ?_; conv => whnf)
      | (refine br_bne (fun _ => ?_) (fun _ => ?_) <;> first | (exfalso; omega) | contradiction | conv => whnf)
      | (refine br_beq (fun _ => ?_) (fun _ => ?_) <;> first | (exfalso; omega) | contradiction | conv => whnf))
    · refine Pick.mk [u8 ((48 + n % 10 : Nat) : Int)] ⟨by simp, by simp⟩ ?_
      try (conv => whnf)
      repeat (first
        | (refine Need.mk ?_ ?_; (focus (first | omega | (simp; omega))); conv => whnf)
        | (refine Pick.mk ?_ ?_ ?_; rotate_left; (focus (first | with_reducible exact bs_app _ _ | (refine wdiv ?_ ?_ ?_ <;> omega))); conv => whnf))
      refine Pick.mk (n / 10, u8 ((48 + n % 10 : Nat) : Int) :: out) ⟨⟨by simp; omega, ?_⟩, by dsimp only; omega⟩ (LeX.of ?_)
      · dsimp only
        rw [← h3]
        conv => rhs; rw [digs, if_neg (by omega)]
      · try (conv => whnf)
        repeat (refine Need.mk ?_ ?_; (focus (first | omega | (simp; done))); conv => whnf)
        trivial
    · refine Out.mk true [] [] ?_
      try (conv => whnf)
      have : n = 0 := by omega
      subst this
      rw [digs, if_pos rfl] at h3
      rw [markT, Int.toNat_natCast, ← h3]
      exact ⟨rfl, rfl⟩
theorem l_eqStringS (a b : List (List UInt8)) (ha : a.length ≤ 2 ^ 39) (hb : b.length ≤ 2 ^ 39) : CallD Try.prog id_laws_eqStringS [vTs a, vTs b] [] (vB (decide (a = b))) [] := by
  refine F_laws_eqStringS ?_
  try (conv => whnf)
  repeat' (first
    | (refine Pick.mk ?_ ?_ ?_; rotate_left; (focus (exact List.length_map _)); conv => whnf)
    | (refine br_dec (fun _ => ?_) (fun _ => ?_) <;> first | (exfalso; omega) | contradiction | conv => whnf)
    | (refine br_not ?_; conv => whnf)
    | (refine br_bne (fun _ => ?_) (fun _ => ?_) <;> first | (exfalso; omega) | contradiction | conv => whnf)
    | (refine br_beq (fun _ => ?_) (fun _ => ?_) <;> first | (exfalso; omega) | contradiction | conv => whnf))
  · refine LoopE.mk (fun i : Nat => mk [(0, vTs a), (1, vTs b), (5, vI .i64 i)] []) (fun i => i ≤ a.length ∧ a.take i = b.take i) (fun i => a.length - i) 0 (by simp) (LeX.of ?_) ?_
    · try (conv => whnf)
      repeat (refine Need.mk ?_ ?_; (focus (first | omega | (simp; done))); conv => whnf)
      trivial
    · rintro i ⟨hi, he⟩
      try (conv => whnf)
      repeat' (first
        | (refine Pick.mk ?_ ?_ ?_; rotate_left; (focus (first | exact bs_beq _ _ | exact List.length_map _ | (refine wid ?_ ?_ <;> omega) | (refine pick_nat _ _ _ ?_; omega))); conv => whnf)
        | (refine SeqJ.thru ?_; conv => whnf)
        | (refine br_dec (fun _ => ?_) (fun _ => ?_) <;> first | (exfalso; omega) | contradiction | conv => whnf)
        | (refine br_not ?_; conv => whnf)
        | (refine br_bne (fun _ => ?_) (fun _ => ?_) <;> first | (exfalso; omega) | contradiction | conv => whnf)
        | (refine br_beq (fun _ => ?_) (fun _ => ?_) <;> first | (exfalso; omega) | contradiction | conv => whnf))
      · rename_i g1 g2 g3
        refine Pick.mk (i + 1) ⟨⟨by omega, take_eq_step (by omega) (by omega) he g3⟩, by omega⟩ (LeX.of ?_)
        try (conv => whnf)
        repeat (refine Need.mk ?_ ?_; (focus (first | omega | (simp; done))); conv => whnf)
        trivial
      · rename_i g1 g2 g3
        refine Out.mk true [] [] ?_
        try (conv => whnf)
        have : a ≠ b := by rintro rfl; exact g3 rfl
        simp [this]; exact ⟨trivial⟩
      · refine Out.mk true [] [] ?_
        try (conv => whnf)
        have : a = b := by rw [List.take_of_length_le (by omega), List.take_of_length_le (by omega)] at he; exact he
        simp [this]; exact ⟨trivial⟩
  · refine Out.mk true [] [] ?_
    try (conv => whnf)
    have : a ≠ b := by rintro rfl; omega
    simp [this]; exact ⟨trivial⟩
/-- The marks from a number on, as texts. -/
def markTs (k : Int) (n : Nat) : List (List UInt8) := (List.range n).map fun (i : Nat) => markT (k + i)
@[simp] theorem markTs_length (k : Int) (n : Nat) : (markTs k n).length = n := by simp [markTs]
theorem markTs_get (k : Int) {n i : Nat} (h : i < n) : (markTs k n)[i]'(by simpa using h) = markT (k + i) := by simp [markTs]
theorem l_markStringS (a : List (List UInt8)) (k : Int) (ha : a.length ≤ 2 ^ 39) (h0 : 0 < k) (h1 : k ≤ 2 ^ 59) :
    CallMD Try.prog id_laws_markStringS [.one (.os 0 1 0 a.length), vI .i64 k] [.own 1 (a.map tsD)] [] (vI .i64 (k + a.length)) [.own 1 ((markTs k a.length).map tsD)] := by
  refine F_laws_markStringS ?_
  try (conv => whnf)
  refine LoopE.mk (fun i : Nat => mk [(0, .one (.os 0 1 0 a.length)), (1, vI .i64 (k + i)), (5, vI .i64 i)] [(0, .own 1 ((over (markTs k a.length) a i).map tsD))]) (fun i => i ≤ a.length) (fun i => a.length - i) 0 (by omega) (LeX.of ?_) ?_
  · try (conv => whnf)
    repeat (refine Need.mk ?_ ?_; (focus (first | omega | rfl)); conv => whnf)
    trivial
  · intro i hi
    try (conv => whnf)
    repeat' (first
      | (refine SeqJ.thru ?_; conv => whnf)
      | (refine br_dec (fun _ => ?_) (fun _ => ?_) <;> first | (exfalso; omega) | contradiction | conv => whnf)
      | (refine br_not ?_; conv => whnf)
      | (refine br_bne (fun _ => ?_) (fun _ => ?_) <;> first | (exfalso; omega) | contradiction | conv => whnf)
      | (refine br_beq (fun _ => ?_) (fun _ => ?_) <;> first | (exfalso; omega) | contradiction | conv => whnf))
    · refine Hand.mk [] ?_
      try (conv => whnf)
      refine CallW.d (l_markText (k + i) (by omega) (by omega)) ?_
      try (conv => whnf)
      repeat (refine Need.mk ?_ ?_; (focus (omega)); conv => whnf)
      refine Pick.mk (tsD (a[i]'(by omega))) (by rw [addN_eq, List.getElem?_map, show 0 + (i : Int).toNat = i by omega, over_get (by simp) (by omega)]; simp) ?_
      try (conv => whnf)
      repeat (refine Pick.mk ?_ ?_ ?_; rotate_left; (focus (first | with_reducible exact set_tsN _ _ _ _ | (refine wid ?_ ?_ <;> omega))); conv => whnf)
      refine Pick.mk (i + 1) (by constructor <;> first | omega | (simp only []; omega)) (LeX.of ?_)
      try (conv => whnf)
      repeat (refine Need.mk ?_ ?_; (focus (omega)); conv => whnf)
      refine Need.mk (by rw [← over_set (by simp) (by omega), markTs_get _ (by omega)]) ?_
      try (conv => whnf)
      trivial
    · refine Out.mk false [0, 1, 2, 3, 4] [] ?_
      try (conv => whnf)
      repeat (refine Need.mk ?_ ?_; (focus ((first | exact flat_by _ | exact flat_in _ | exact flat_st _ | exact flat_ts _ | exact flat_bo _ | exact flat_cl rfl))); conv => whnf)
      rw [over_end (by simp) (by omega)]
      exact ⟨by congr; omega, rfl⟩
theorem l_heldStringS (n : Nat) (k : Int) (ha : n ≤ 2 ^ 39) (h0 : 0 < k) (h1 : k ≤ 2 ^ 59) :
    CallD Try.prog id_laws_heldStringS [vTs (markTs k n), vI .i64 k] [] (vI .i64 (k + n)) [] := by
  refine F_laws_heldStringS ?_
  have hm : (markTs k n).length = n := by simp
  try (conv => whnf)
  refine LoopE.mk (fun i : Nat => mk [(0, vTs (markTs k n)), (1, vI .i64 (k + i)), (5, vI .i64 i)] []) (fun i => i ≤ n) (fun i => n - i) 0 (by omega) (LeX.of ?_) ?_
  · try (conv => whnf)
    repeat (refine Need.mk ?_ ?_; (focus (first | omega | (simp; done))); conv => whnf)
    trivial
  · intro i hi
    try (conv => whnf)
    repeat' (first
      | (refine Pick.mk ?_ ?_ ?_; rotate_left; (focus (first | exact List.length_map _ | (refine pick_nat _ _ _ ?_; omega))); conv => whnf)
      | (refine SeqJ.thru ?_; conv => whnf)
      | (refine br_dec (fun _ => ?_) (fun _ => ?_) <;> first | (exfalso; omega) | contradiction | conv => whnf)
      | (refine br_not ?_; conv => whnf)
      | (refine br_bne (fun _ => ?_) (fun _ => ?_) <;> first | (exfalso; omega) | contradiction | conv => whnf)
      | (refine br_beq (fun _ => ?_) (fun _ => ?_) <;> first | (exfalso; omega) | contradiction | conv => whnf))
    · refine Hand.mk [] ?_
      try (conv => whnf)
      refine CallW.d (l_markText (k + i) (by omega) (by omega)) ?_
      try (conv => whnf)
      refine Need.mk ?_ ?_
      · try (conv => whnf)
        repeat (first
          | (refine Need.mk ?_ ?_; (focus ((simp; done))); conv => whnf)
          | (refine Pick.mk ?_ ?_ ?_; rotate_left; (focus ((refine pick_nat _ _ _ ?_; omega))); conv => whnf))
        exact Done.mk trivial
      try (conv => whnf)
      repeat' (first
        | (refine Pick.mk ?_ ?_ ?_; rotate_left; (focus (first | exact bs_beq _ _ | (refine wid ?_ ?_ <;> omega))); conv => whnf)
        | (refine br_dec (fun _ => ?_) (fun _ => ?_) <;> first | (exfalso; omega) | contradiction | conv => whnf)
        | (refine br_not ?_; conv => whnf)
        | (refine br_bne (fun _ => ?_) (fun _ => ?_) <;> first | (exfalso; omega) | contradiction | conv => whnf)
        | (refine br_beq (fun _ => ?_) (fun _ => ?_) <;> first | (exfalso; omega) | contradiction | conv => whnf))
      · refine Pick.mk (i + 1) (by constructor <;> first | omega | (simp only []; omega)) (LeX.of ?_)
        try (conv => whnf)
        repeat (refine Need.mk ?_ ?_; (focus (first | omega | (simp; done))); conv => whnf)
        trivial
      · rename_i g1 g2
        exfalso
        rw [markTs_get k (by omega)] at g2
        simp at g2
    · refine Out.mk true [] [] ?_
      try (conv => whnf)
      exact ⟨by congr; omega, rfl⟩
end Go.Proofs.Ytoklfidamhigcaa.D
