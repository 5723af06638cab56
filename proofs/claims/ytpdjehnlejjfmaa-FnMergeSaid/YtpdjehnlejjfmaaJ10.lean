/- The law FnMerge, as a call that gives back true. -/
import Derived.WalkKit
import Derived.ProofKit
import Derived.OpenShut
import Derived.ShutString
import Derived.ChangeOld
import Derived.Below
import Derived.SizedLaws
import Derived.ChangeSlices
import Derived.SliceStrings
import Derived.Test.YtpdjehnlejjfmaaJ9
set_option linter.unusedVariables false
set_option linter.unusedSimpArgs false
namespace Go.Proofs.Ytpdjehnlejjfmaa.D
open Go.RowKit
set_option maxRecDepth 100000
set_option maxHeartbeats 4000000
set_option linter.unusedVariables false
set_option linter.unusedSimpArgs false
theorem law_Merge (code : List UInt8) (hc : code.length ≤ 2 ^ 47) : CallD Try.prog id_laws_FnMerge [vY code] [] (vB true) [] := by
 refine F_laws_FnMerge ?_
 try (conv => whnf)
 repeat' (first
  | (refine Pick.mk ?_ ?_ ?_; rotate_left; (focus (exact List.length_map _)); conv => whnf)
  | (refine SeqJ.thru ?_; conv => whnf)
  | (refine br_dec (fun _ => ?_) (fun _ => ?_) <;> first | (exfalso; omega) | contradiction | conv => whnf)
  | (refine br_not ?_; conv => whnf)
  | (refine br_bne (fun _ => ?_) (fun _ => ?_) <;> first | (exfalso; omega) | contradiction | conv => whnf)
  | (refine br_beq (fun _ => ?_) (fun _ => ?_) <;> first | (exfalso; omega) | contradiction | conv => whnf))
 ·refine Out.mk true [] [] ?_
  try (conv => whnf)
  exact ⟨rfl, rfl⟩
 ·refine Hand.mk [] ?_
  try (conv => whnf)
  refine CallW.n (s_DrawBranchBase code (by omega)) ?_
  rintro _ _ ⟨a, b, rfl, rfl, xa, xb⟩
  have wa : ∀ o ∈ a, o.key.length ≤ 2 ^ 40 ∧ o.text.length ≤ 2 ^ 40 := fun o ho => by have := xa.ops o ho; omega
  have wb : ∀ o ∈ b, o.key.length ≤ 2 ^ 40 ∧ o.text.length ≤ 2 ^ 40 := fun o ho => by have := xb.ops o ho; omega
  have c1 := s_BranchMerge a b wa wb
  have c2 := i_BranchMerge a b wa wb
  have c3 := i_BranchMerge b a wb wa
  have c4 := i_BranchBase a b wa wb
  have c5 := s_BranchBase a b wa wb
  have c6 := i_BranchAhead a b wa wb
  have c7 := i_BranchAhead b a wb wa
  by_cases hc0 : mcode a b = 0
  ·have hc1 := mcode_comm.1 hc0
   obtain ⟨ha, hb, hf⟩ := mcode_ok.1 hc0
   have hba : baseC a b = 0 := by rw [baseC, if_pos hc0, meetC, if_pos ⟨cnts_ok ha, cnts_ok hb⟩]
   have hbr : baseR a b = vmin (cnts a) (cnts b) := by rw [baseR, if_pos hc0, meetR, if_pos ⟨cnts_ok ha, cnts_ok hb⟩]
   rw [hba, hbr] at c4 c5
   rw [hc0, show aheadR a b = aheadL a b from if_pos hc0] at c6
   rw [hc1, show aheadR b a = aheadL b a from if_pos hc1] at c7
   obtain ⟨s1, s2, s3⟩ := merge_sums ha hb
   have hvl : (vmin (cnts a) (cnts b)).length = 16 := by simp [vmin]
   have hs0 := fun k h => (sum_a a b k h).2
   have hvk : ∀ k (h : k < (vmin (cnts a) (cnts b)).length), 0 ≤ (vmin (cnts a) (cnts b))[k] ∧ (vmin (cnts a) (cnts b))[k] ≤ 1024 := fun k h => by
    rw [vmin_get (by simp) (by simp) (by omega), cnts_get a (by omega), cnts_get b (by omega)]
    have := own_le a k
    have := own_le b k
    have := ha.len
    have := hb.len
    split <;> omega
   obtain ⟨v, hv⟩ : ∃ v, v = vmin (cnts a) (cnts b) := ⟨_, rfl⟩
   obtain ⟨A, hA⟩ : ∃ A, A = aheadL a b := ⟨_, rfl⟩
   obtain ⟨B, hB⟩ : ∃ B, B = aheadL b a := ⟨_, rfl⟩
   simp only [← hv, ← hA, ← hB] at *
   have hla := ha.len
   have hlb := hb.len
   by_cases hm : mergeC a b = 0
   ·have hm2 := mergeC_comm.1 hm
    rw [hm] at c1 c2
    rw [hm2] at c3
    have hmer := merge_again hm
    have hxy : mergeR b a = mergeR a b := by rw [mergeR, if_pos hm2, mergeR, if_pos hm, mergeF_comm hf.symm]
    rw [hxy] at c3
    obtain ⟨X, hX⟩ : ∃ X, X = mergeR a b := ⟨_, rfl⟩
    have hX2 : X = mergeF a b := by rw [hX, mergeR, if_pos hm]
    rw [← hX] at c1 c2 c3
    rw [← hX2] at hmer s3
    have xX : X.length ≤ 1024 ∧ ∀ o ∈ X, o.deps.length ≤ 2 ^ 20 ∧ o.key.length ≤ 2 ^ 20 ∧ o.text.length ≤ 2 ^ 20 := ⟨by rw [hX2]; exact (mergeC_ok.1 hm).2.2, fun o ho => by
     rw [hX2] at ho
     exact (merge_mem ho).elim (xa.ops o) (xb.ops o)⟩
    have c8 := i_BranchMerge X b (fun o ho => by have := xX.2 o ho; omega) wb
    rw [hmer.1, show mergeR X b = X by rw [mergeR, if_pos hmer.1, hmer.2]] at c8
    have hxl := xX.1
    have c9 := l_sameLog X (by omega) (fun o ho => by have := xX.2 o ho; omega)
    try (conv => whnf)
    refine Hand.mk [] ?_
    try (conv => whnf)
    refine CallW.k (c1) ?_
    try (conv => whnf)
    refine Hand.mk [] ?_
    try (conv => whnf)
    refine CallW.d (c2) ?_
    try (conv => whnf)
    refine Hand.mk [] ?_
    try (conv => whnf)
    refine CallW.d (c3) ?_
    try (conv => whnf)
    repeat (refine SeqJ.thru ?_; conv => whnf)
    try (conv => whnf)
    repeat' (first
     | (refine br_dec (fun _ => ?_) (fun _ => ?_) <;> first | (exfalso; omega) | contradiction | conv => whnf)
     | (refine br_not ?_; conv => whnf)
     | (refine br_bne (fun _ => ?_) (fun _ => ?_) <;> first | (exfalso; omega) | contradiction | conv => whnf)
     | (refine br_beq (fun _ => ?_) (fun _ => ?_) <;> first | (exfalso; omega) | contradiction | conv => whnf))
    refine Hand.mk [] ?_
    try (conv => whnf)
    refine CallW.d (c4) ?_
    try (conv => whnf)
    refine Hand.mk [] ?_
    try (conv => whnf)
    refine CallW.d (c5) ?_
    try (conv => whnf)
    repeat (refine SeqJ.thru ?_; conv => whnf)
    try (conv => whnf)
    repeat' (first
     | (refine br_dec (fun _ => ?_) (fun _ => ?_) <;> first | (exfalso; omega) | contradiction | conv => whnf)
     | (refine br_not ?_; conv => whnf)
     | (refine br_bne (fun _ => ?_) (fun _ => ?_) <;> first | (exfalso; omega) | contradiction | conv => whnf)
     | (refine br_beq (fun _ => ?_) (fun _ => ?_) <;> first | (exfalso; omega) | contradiction | conv => whnf))
    refine Hand.mk [] ?_
    try (conv => whnf)
    refine CallW.d (c6) ?_
    try (conv => whnf)
    refine Hand.mk [] ?_
    try (conv => whnf)
    refine CallW.d (c7) ?_
    try (conv => whnf)
    try (conv => whnf)
    repeat' (first
     | (refine br_dec (fun _ => ?_) (fun _ => ?_) <;> first | (exfalso; omega) | contradiction | conv => whnf)
     | (refine br_not ?_; conv => whnf)
     | (refine br_bne (fun _ => ?_) (fun _ => ?_) <;> first | (exfalso; omega) | contradiction | conv => whnf)
     | (refine br_beq (fun _ => ?_) (fun _ => ?_) <;> first | (exfalso; omega) | contradiction | conv => whnf))
    refine LoopE.mk (fun k : Nat => mk [(3, vL a), (4, vL b), (6, vI .i64 0), (7, .one (.os (.v 24608) 12 0 X.length)), (9, .one (.os (.v 28704) 12 0 X.length)), (11, .one (.ptr 41056 0)), (15, .one (.os (.v 65568) 12 0 A.length)), (16, vI .i64 0), (17, .one (.os (.v 69664) 12 0 B.length)), (18, vI .i64 0), (19, vI .i64 (sumV v k)), (20, vI .i64 k)]
     [(24608, .own 12 (X.map oO)), (28704, .own 12 (X.map oO)), (41056, .box [.os (.v 40992) 1 0 v.length]), (40992, .own 1 (v.map inD)), (65568, .own 12 (A.map oO)), (69664, .own 12 (B.map oO))]) (fun k => k ≤ 16 ∧ sumV v k ≤ 2000 * k) (fun k => 16 - k) 0 ⟨by omega, by simp [sumV]⟩ (LeX.of ?_) ?_
    ·try (conv => whnf)
     repeat (refine Need.mk ?_ ?_; (focus (first | omega | (simp; done) | rfl)); conv => whnf)
     trivial
    ·rintro k ⟨hk, hkl⟩
     have hk0 := hs0 k hk
     by_cases hlt : k < 16
     ·have hsk := sumV_succ v (k := k) (by omega)
      have hvk2 := hvk k (by omega)
      try (conv => whnf)
      repeat' (first
       | (refine Need.mk ?_ ?_; (focus (omega)); conv => whnf)
       | (refine Pick.mk ?_ ?_ ?_; rotate_left; (focus (first | (with_reducible refine get_mapN _ _ _ ?_; first | omega | (simp; omega)) | (refine wid ?_ ?_ <;> omega))); conv => whnf)
       | (refine SeqJ.thru ?_; conv => whnf)
       | (refine br_dec (fun _ => ?_) (fun _ => ?_) <;> first | (exfalso; omega) | contradiction | conv => whnf)
       | (refine br_not ?_; conv => whnf)
       | (refine br_bne (fun _ => ?_) (fun _ => ?_) <;> first | (exfalso; omega) | contradiction | conv => whnf)
       | (refine br_beq (fun _ => ?_) (fun _ => ?_) <;> first | (exfalso; omega) | contradiction | conv => whnf))
      refine Pick.mk (k + 1) ⟨⟨by omega, by rw [hsk]; omega⟩, by omega⟩ (LeX.of ?_)
      try (conv => whnf)
      repeat (refine Need.mk ?_ ?_; (focus (first | omega | (simp; done))); conv => whnf)
      trivial
     ·obtain rfl : k = 16 := by omega
      try (conv => whnf)
      repeat' (first
       | (refine Pick.mk ?_ ?_ ?_; rotate_left; (focus (first | exact List.length_map _ | (refine wid ?_ ?_ <;> omega))); conv => whnf)
       | (refine SeqJ.thru ?_; conv => whnf)
       | (refine br_dec (fun _ => ?_) (fun _ => ?_) <;> first | (exfalso; omega) | contradiction | conv => whnf)
       | (refine br_not ?_; conv => whnf)
       | (refine br_bne (fun _ => ?_) (fun _ => ?_) <;> first | (exfalso; omega) | contradiction | conv => whnf)
       | (refine br_beq (fun _ => ?_) (fun _ => ?_) <;> first | (exfalso; omega) | contradiction | conv => whnf))
      refine Hand.mk [] ?_
      try (conv => whnf)
      repeat (refine Pick.mk ?_ ?_ ?_; rotate_left; (focus (exact sl_ops _ rfl)); conv => whnf)
      refine CallW.d (c8) ?_
      try (conv => whnf)
      try (conv => whnf)
      repeat' (first
       | (refine br_dec (fun _ => ?_) (fun _ => ?_) <;> first | (exfalso; omega) | contradiction | conv => whnf)
       | (refine br_not ?_; conv => whnf)
       | (refine br_bne (fun _ => ?_) (fun _ => ?_) <;> first | (exfalso; omega) | contradiction | conv => whnf)
       | (refine br_beq (fun _ => ?_) (fun _ => ?_) <;> first | (exfalso; omega) | contradiction | conv => whnf))
      refine Hand.mk [] ?_
      try (conv => whnf)
      repeat (refine Pick.mk ?_ ?_ ?_; rotate_left; (focus (exact sl_ops _ rfl)); conv => whnf)
      refine CallW.d (c9) ?_
      try (conv => whnf)
      try (conv => whnf)
      repeat' (first
       | (refine br_dec (fun _ => ?_) (fun _ => ?_) <;> first | (exfalso; omega) | contradiction | conv => whnf)
       | (refine br_not ?_; conv => whnf)
       | (refine br_bne (fun _ => ?_) (fun _ => ?_) <;> first | (exfalso; omega) | contradiction | conv => whnf)
       | (refine br_beq (fun _ => ?_) (fun _ => ?_) <;> first | (exfalso; omega) | contradiction | conv => whnf)
       | (refine br_and ?_; conv => whnf))
      refine Hand.mk [] ?_
      try (conv => whnf)
      repeat (refine Pick.mk ?_ ?_ ?_; rotate_left; (focus (exact sl_ops _ rfl)); conv => whnf)
      refine CallW.d (c9) ?_
      try (conv => whnf)
      repeat (refine Pick.mk ?_ ?_ ?_; rotate_left; (focus ((refine wid ?_ ?_ <;> omega))); conv => whnf)
      try (conv => whnf)
      repeat' (first
       | (refine br_dec (fun _ => ?_) (fun _ => ?_) <;> first | (exfalso; omega) | contradiction | conv => whnf)
       | (refine br_not ?_; conv => whnf)
       | (refine br_bne (fun _ => ?_) (fun _ => ?_) <;> first | (exfalso; omega) | contradiction | conv => whnf)
       | (refine br_beq (fun _ => ?_) (fun _ => ?_) <;> first | (exfalso; omega) | contradiction | conv => whnf)
       | (refine br_and ?_; conv => whnf))
      refine Out.mk true [] [] ?_
      try (conv => whnf)
      exact ⟨by simp; omega, rfl⟩
   ·obtain ⟨m, hmm⟩ : ∃ m, m = mergeC a b := ⟨_, rfl⟩
    obtain ⟨m2, hmm2⟩ : ∃ m2, m2 = mergeC b a := ⟨_, rfl⟩
    have hne : m2 ≠ 0 := by rw [hmm2]; exact fun g => hm (mergeC_comm.2 g)
    rw [← hmm] at c1 c2 hm
    rw [← hmm2] at c3
    have hbb : (m2 == 0) = (m == 0) := by rw [beq_false_of_ne hne, beq_false_of_ne hm]
    obtain ⟨X, hX⟩ : ∃ X, X = mergeR a b := ⟨_, rfl⟩
    obtain ⟨Y, hY⟩ : ∃ Y, Y = mergeR b a := ⟨_, rfl⟩
    rw [← hX] at c1 c2
    rw [← hY] at c3
    try (conv => whnf)
    refine Hand.mk [] ?_
    try (conv => whnf)
    refine CallW.k (c1) ?_
    try (conv => whnf)
    refine Hand.mk [] ?_
    try (conv => whnf)
    refine CallW.d (c2) ?_
    try (conv => whnf)
    refine Hand.mk [] ?_
    try (conv => whnf)
    refine CallW.d (c3) ?_
    try (conv => whnf)
    repeat (refine SeqJ.thru ?_; conv => whnf)
    try (conv => whnf)
    repeat' (first
     | (refine br_dec (fun _ => ?_) (fun _ => ?_) <;> first | (exfalso; omega) | contradiction | conv => whnf)
     | (refine br_not ?_; conv => whnf)
     | (refine br_bne (fun _ => ?_) (fun _ => ?_) <;> first | (exfalso; omega) | contradiction | conv => whnf)
     | (refine br_beq (fun _ => ?_) (fun _ => ?_) <;> first | (exfalso; omega) | contradiction | conv => whnf))
    refine Hand.mk [] ?_
    try (conv => whnf)
    refine CallW.d (c4) ?_
    try (conv => whnf)
    refine Hand.mk [] ?_
    try (conv => whnf)
    refine CallW.d (c5) ?_
    try (conv => whnf)
    repeat (refine SeqJ.thru ?_; conv => whnf)
    try (conv => whnf)
    repeat' (first
     | (refine br_dec (fun _ => ?_) (fun _ => ?_) <;> first | (exfalso; omega) | contradiction | conv => whnf)
     | (refine br_not ?_; conv => whnf)
     | (refine br_bne (fun _ => ?_) (fun _ => ?_) <;> first | (exfalso; omega) | contradiction | conv => whnf)
     | (refine br_beq (fun _ => ?_) (fun _ => ?_) <;> first | (exfalso; omega) | contradiction | conv => whnf))
    refine Hand.mk [] ?_
    try (conv => whnf)
    refine CallW.d (c6) ?_
    try (conv => whnf)
    refine Hand.mk [] ?_
    try (conv => whnf)
    refine CallW.d (c7) ?_
    try (conv => whnf)
    try (conv => whnf)
    repeat' (first
     | (refine br_dec (fun _ => ?_) (fun _ => ?_) <;> first | (exfalso; omega) | contradiction | conv => whnf)
     | (refine br_not ?_; conv => whnf)
     | (refine br_bne (fun _ => ?_) (fun _ => ?_) <;> first | (exfalso; omega) | contradiction | conv => whnf)
     | (refine br_beq (fun _ => ?_) (fun _ => ?_) <;> first | (exfalso; omega) | contradiction | conv => whnf))
    refine LoopE.mk (fun k : Nat => mk [(3, vL a), (4, vL b), (6, vI .i64 m), (11, .one (.ptr 41056 0)), (15, .one (.os (.v 65568) 12 0 A.length)), (16, vI .i64 0), (17, .one (.os (.v 69664) 12 0 B.length)), (18, vI .i64 0), (19, vI .i64 (sumV v k)), (20, vI .i64 k)]
     [(41056, .box [.os (.v 40992) 1 0 v.length]), (40992, .own 1 (v.map inD)), (65568, .own 12 (A.map oO)), (69664, .own 12 (B.map oO))]) (fun k => k ≤ 16 ∧ sumV v k ≤ 2000 * k) (fun k => 16 - k) 0 ⟨by omega, by simp [sumV]⟩ (LeX.of ?_) ?_
    ·try (conv => whnf)
     repeat (refine Need.mk ?_ ?_; (focus (first | omega | (simp; done) | rfl)); conv => whnf)
     trivial
    ·rintro k ⟨hk, hkl⟩
     have hk0 := hs0 k hk
     by_cases hlt : k < 16
     ·have hsk := sumV_succ v (k := k) (by omega)
      have hvk2 := hvk k (by omega)
      try (conv => whnf)
      repeat' (first
       | (refine Need.mk ?_ ?_; (focus (omega)); conv => whnf)
       | (refine Pick.mk ?_ ?_ ?_; rotate_left; (focus (first | (with_reducible refine get_mapN _ _ _ ?_; first | omega | (simp; omega)) | (refine wid ?_ ?_ <;> omega))); conv => whnf)
       | (refine SeqJ.thru ?_; conv => whnf)
       | (refine br_dec (fun _ => ?_) (fun _ => ?_) <;> first | (exfalso; omega) | contradiction | conv => whnf)
       | (refine br_not ?_; conv => whnf)
       | (refine br_bne (fun _ => ?_) (fun _ => ?_) <;> first | (exfalso; omega) | contradiction | conv => whnf)
       | (refine br_beq (fun _ => ?_) (fun _ => ?_) <;> first | (exfalso; omega) | contradiction | conv => whnf))
      refine Pick.mk (k + 1) ⟨⟨by omega, by rw [hsk]; omega⟩, by omega⟩ (LeX.of ?_)
      try (conv => whnf)
      repeat (refine Need.mk ?_ ?_; (focus (first | omega | (simp; done))); conv => whnf)
      trivial
     ·obtain rfl : k = 16 := by omega
      try (conv => whnf)
      repeat' (first
       | (refine Pick.mk ?_ ?_ ?_; rotate_left; (focus (first | exact List.length_map _ | (refine wid ?_ ?_ <;> omega))); conv => whnf)
       | (refine SeqJ.thru ?_; conv => whnf)
       | (refine br_dec (fun _ => ?_) (fun _ => ?_) <;> first | (exfalso; omega) | contradiction | conv => whnf)
       | (refine br_not ?_; conv => whnf)
       | (refine br_bne (fun _ => ?_) (fun _ => ?_) <;> first | (exfalso; omega) | contradiction | conv => whnf)
       | (refine br_beq (fun _ => ?_) (fun _ => ?_) <;> first | (exfalso; omega) | contradiction | conv => whnf))
      refine Out.mk true [] [] ?_
      try (conv => whnf)
      exact ⟨rfl, rfl⟩
  ·have hm : mergeC a b = mcode a b := if_pos hc0
   have hm2 : mergeC b a = mcode b a := if_pos fun g => hc0 (mcode_comm.2 g)
   have hc1 : mcode b a ≠ 0 := fun g => hc0 (mcode_comm.2 g)
   have hba : baseC a b = mcode a b := if_neg hc0
   rw [hba] at c4 c5
   rw [hm] at c1 c2
   rw [hm2] at c3
   obtain ⟨m, hmm⟩ : ∃ m, m = mcode a b := ⟨_, rfl⟩
   obtain ⟨m2, hmm2⟩ : ∃ m2, m2 = mcode b a := ⟨_, rfl⟩
   rw [← hmm] at c1 c2 c4 c5 hc0
   rw [← hmm2] at c3 hc1
   have hbb : (m2 == 0) = (m == 0) := by rw [beq_false_of_ne hc1, beq_false_of_ne hc0]
   try (conv => whnf)
   refine Hand.mk [] ?_
   try (conv => whnf)
   refine CallW.k (c1) ?_
   try (conv => whnf)
   refine Hand.mk [] ?_
   try (conv => whnf)
   refine CallW.d (c2) ?_
   try (conv => whnf)
   refine Hand.mk [] ?_
   try (conv => whnf)
   refine CallW.d (c3) ?_
   try (conv => whnf)
   repeat (refine SeqJ.thru ?_; conv => whnf)
   try (conv => whnf)
   repeat' (first
    | (refine br_dec (fun _ => ?_) (fun _ => ?_) <;> first | (exfalso; omega) | contradiction | conv => whnf)
    | (refine br_not ?_; conv => whnf)
    | (refine br_bne (fun _ => ?_) (fun _ => ?_) <;> first | (exfalso; omega) | contradiction | conv => whnf)
    | (refine br_beq (fun _ => ?_) (fun _ => ?_) <;> first | (exfalso; omega) | contradiction | conv => whnf))
   refine Hand.mk [] ?_
   try (conv => whnf)
   refine CallW.d (c4) ?_
   try (conv => whnf)
   refine Hand.mk [] ?_
   try (conv => whnf)
   refine CallW.d (c5) ?_
   try (conv => whnf)
   repeat (refine SeqJ.thru ?_; conv => whnf)
   try (conv => whnf)
   repeat' (first
    | (refine SeqJ.thru ?_; conv => whnf)
    | (refine br_dec (fun _ => ?_) (fun _ => ?_) <;> first | (exfalso; omega) | contradiction | conv => whnf)
    | (refine br_not ?_; conv => whnf)
    | (refine br_bne (fun _ => ?_) (fun _ => ?_) <;> first | (exfalso; omega) | contradiction | conv => whnf)
    | (refine br_beq (fun _ => ?_) (fun _ => ?_) <;> first | (exfalso; omega) | contradiction | conv => whnf))
   refine Out.mk true [] [] ?_
   try (conv => whnf)
   exact ⟨rfl, rfl⟩
end Go.Proofs.Ytpdjehnlejjfmaa.D
/- From a call's contract to the given row: the arguments as they read. -/
namespace Go.Proofs.Ytpdjehnlejjfmaa.D
open Go.ChangeShapes Go.WideShapes Go.ChangeAt Go.RowKit
open Go.ChangeMaps (open_string)
set_option linter.unusedVariables false
set_option linter.unusedSimpArgs false

def cellsV (w : World) : View := fun x => w.cell? x
theorem satL0 (w : World) : SatL w Rows0.none (cellsV w) (fun _ => none) (Lof []) w :=
 ⟨Keep.refl _ _, fun _ _ h => h, fun x v p b n _ h => by simp at h, fun p q b n n' h => by simp at h, fun p b n h => by simp at h, fun p r h => by simp [Lof] at h, ⟨by simp [Rows0.none], fun q x h => by simp [Rows0.none] at h⟩, fun _ _ => ⟨rfl, fun _ _ => rfl⟩,
  fun p r h => by simp [Lof] at h, fun t => .one (.dead _), rfl, rfl⟩
theorem enter_law {P : Program} {f : FuncId} {args : List SV} {w : World} {vs : List Value} (h : CallD P f args [] (vB true) []) (ha : Args (cellsV w) (fun _ => none) args vs) :
  Calls P f vs.toArray w (fun e w' => e = .returned (.bool true) ∧ Below w.heap.size w w') := by
 refine (h.2 w Rows0.none _ _ vs rfl (satL0 w) ha).mono ?_
 rintro e w' ⟨v, V', bs', res, Lo, rfl, ⟨rfl, rfl⟩, -, -, -, hs, hv, -⟩
 refine ⟨?_, hs.keep.below⟩
 cases hv with
 |one h => cases h with
  | dv h => cases h; rfl
theorem args0 {V : View} {b : Loc} : Args V b [] [] := ⟨rfl, fun i sv v h => by simp at h⟩
theorem argsC {V : View} {b : Loc} {a : SV} {v : Value} {az : List SV} {vs : List Value} (h : VR V b a v) (t : Args V b az vs) : Args V b (a :: az) (v :: vs) :=
 ⟨by simp [t.len], fun i sv u h1 h2 => by
  cases i with
  | zero => simp at h1 h2; subst h1; subst h2; exact h
  | succ i => exact t.get i sv u (by simpa using h1) (by simpa using h2)⟩
section
variable {H : Type} {enc : TypeId × Value → H} {P : Program} {W : World} {base : Nat} {sp : Nat → Bool} {held : Bool}
theorem u8_of {n : Int} (h : (Lit.int .u8 n).wf = true) : ∃ b : UInt8, n = b.toNat := by
 have : 0 ≤ n ∧ n < 256 := by
  simp [Lit.wf, IntKind.min, IntKind.max, IntKind.bits, IntKind.signed] at h
  omega
 exact ⟨u8 n, by rw [u8_val]; omega⟩
theorem list_of {α : Type} (p : α → Int → Prop) : ∀ (zs : List Int), (∀ n ∈ zs, ∃ a, p a n) → ∃ l : List α, l.length = zs.length ∧ ∀ i (h : i < l.length) (h2 : i < zs.length), p l[i] zs[i]
 | [], _ => ⟨[], rfl, fun i h => by simp at h⟩
 |z :: zs, h => by
  obtain ⟨a, ha⟩ := h z (by simp)
  obtain ⟨l, hl, hp⟩ := list_of p zs fun n hn => h n (by simp [hn])
  refine ⟨a :: l, by simp [hl], fun i h h2 => ?_⟩
  cases i with
  | zero => exact ha
  | succ i => exact hp i (by simpa using h) (by simpa using h2)
theorem rd_cells {W : World} {x : Addr} {len cap : Nat} {es : List DV} {g : Nat → Value} (hl : es.length = len) (hc : len ≤ cap) (hg : ∀ i, i < len → W.cell? (x.add i) = some (g i))
  (hr : ∀ i (h : i < es.length), Rd (cellsV W) (g i) es[i]) : Rd (cellsV W) (.slice (some x) len cap) (.sl (es.map fun e => [e])) := by
 by_cases h0 : len = 0
 ·subst h0
  have : es = [] := List.eq_nil_of_length_eq_zero hl
  subst this
  exact .nil _ _
 ·have hx : x = ⟨x.block, x.off, none⟩ := by
   have h1 := hg 0 (by omega)
   have h2 : x.add 0 = x := by simp [Addr.add]
   rw [h2] at h1
   have h3 : x.spot = none := by
    simp only [World.cell?] at h1
    split at h1
    ·split at h1
     ·simp at h1
     ·rename_i h; simpa using h
    ·simp at h1
   cases x; simp_all
  have := Rd.sl (V := cellsV W) x.block x.off 1 cap (es.map fun e => [e]) (fun i _ => g i) (by simp; omega) (by simp) (fun i j hi hj => by
   have h1 := hg i (by simpa [hl] using hi)
   have h2 : x.add i = ⟨x.block, x.off + i * 1 + j, none⟩ := by
    rcases Nat.eq_zero_or_pos i with rfl | hi0
    ·rw [show x.add 0 = x from by simp [Addr.add]]
     simp only [Nat.zero_mul, Nat.add_zero]
     have : j = 0 := by omega
     subst this
     exact hx
    ·unfold Addr.add
     rw [if_neg (by omega)]
     have : j = 0 := by omega
     subst this
     simp
   rw [h2] at h1
   exact h1) (fun i j hi hj => by
   simp at hj
   subst hj
   simpa using hr i (by simpa using hi))
  rw [hx]
  simpa [hl] using this
theorem in_bytes {t e : TypeId} {a : Option Addr} {len cap : Nat} {d : DataW H} {ps : List MemPlace} {ts : List TypeId} {ds : List (DataW H)} {j : Nat} (hsz : (DataW.weightsEach P ts ds).all (· ≤ reachBytes) = true) (h1 : ts[j]? = some t) (h2 : ds[j]? = some d)
  (ht : P.underlying t = some (.slice e)) (he : P.underlying e = some (.int .u8)) (hc : P.cellsOf e = 1) (hb : P.bytesOf e = 1)
  (h : DataW.Trod enc P W base sp held t (.slice a len cap) d ps) : ∃ l : List UInt8, l.length = len ∧ l.length ≤ 2 ^ 47 ∧ Rd (cellsV W) (.slice a len cap) (.sl (l.map byD)) := by
 obtain ⟨fuel, hf⟩ := h
 rcases open_ints ht he hc hf with ⟨hcs, _⟩ | ⟨x, l, c, zs, hcs, _, hl, hm, hz, hx, hcell, hwz⟩
 ·simp [Value.cells] at hcs
  obtain ⟨rfl, rfl, rfl⟩ := hcs
  exact ⟨[], rfl, by simp, .nil _ _⟩
 ·simp [Value.cells] at hcs
  obtain ⟨rfl, rfl, rfl⟩ := hcs
  obtain ⟨hx, _⟩ := Prod.mk.inj hx
  subst hx
  have z := sized_slice hsz h1 h2 ht
  have hr := reachBytes_lt
  rw [hb] at z
  have hll : (lits (H := H) .u8 (zs.take len)).length + (lits (H := H) .u8 (zs.drop len)).length = zs.length := by
   simp [lits]; omega
  have hzl : len ≤ zs.length := by rw [hz]; split <;> omega
  obtain ⟨bsl, hbl, hp⟩ := list_of (fun (b : UInt8) n => n = b.toNat) zs fun n hn => u8_of (hwz n hn)
  refine ⟨bsl.take len, by simp; omega, by simp; omega, ?_⟩
  have := rd_cells (W := W) (x := x) (len := len) (cap := cap) (es := (bsl.take len).map fun b => DV.sc (.int .u8 b.toNat)) (g := fun i => .int .u8 (zs.getD i 0)) (by simp; omega) hl (fun i hi => hcell i (by omega)) (fun i hi => by
   simp only [List.length_map, List.length_take] at hi
   have := hp i (by omega) (by omega)
   simp only [List.getElem_map, List.getElem_take]
   rw [show zs.getD i 0 = zs[i]'(by omega) by simp [List.getD, show i < zs.length by omega], this]
   exact .sc _ rfl)
  rw [List.map_map] at this
  exact this
theorem vrY {l : List UInt8} {v : Value} {b : Loc} (h : Rd (cellsV W) v (.sl (l.map byD))) : VR (cellsV W) b (vY l) v := .one (.dv h)
end
end Go.Proofs.Ytpdjehnlejjfmaa.D
