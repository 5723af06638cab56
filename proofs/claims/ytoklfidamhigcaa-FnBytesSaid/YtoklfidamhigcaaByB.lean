/- Vectors as bytes, and back: by the program. -/
import Derived.Test.YtoklfidamhigcaaVec
import Derived.Test.YtoklfidamhigcaaCod2
namespace Go.Proofs.Ytoklfidamhigcaa.D
open Go.RowKit
set_option maxRecDepth 100000
set_option maxHeartbeats 4000000
set_option linter.unusedVariables false
set_option linter.unusedSimpArgs false

theorem at_n (l : List Int) (n : Int) (m : Nat) (h : n = m) (hm : m < l.length) : 0 ≤ n ∧ (l.map inD)[n.toNat]? = some (inD l[m]) := by
  subst h
  exact ⟨by omega, by simp [hm]⟩
/-- How many numbers stand ahead of the last zeros. -/
def trimN (v : List Int) : Nat → Nat
  | 0 => 0
  | k + 1 => if v.getD k 0 = 0 then trimN v k else k + 1
theorem trimN_le (v : List Int) : ∀ k, trimN v k ≤ k
  | 0 => Nat.le_refl _
  | k + 1 => by
    rw [trimN]; split
    · have := trimN_le v k; omega
    · omega
theorem trimN_zero (v : List Int) : ∀ k j, trimN v k ≤ j → j < k → v.getD j 0 = 0
  | 0, j, _, h => by omega
  | k + 1, j, h1, h2 => by
    rw [trimN] at h1
    split at h1
    · rename_i h3
      rcases Nat.lt_or_ge j k with h4 | h4
      · exact trimN_zero v k j h1 h4
      · rw [show j = k by omega]; exact h3
    · omega
theorem trimN_last (v : List Int) : ∀ k, 0 < trimN v k → v.getD (trimN v k - 1) 0 ≠ 0
  | 0, h => by simp [trimN] at h
  | k + 1, h => by
    rw [trimN] at h ⊢
    split
    · rename_i h3
      rw [if_pos h3] at h
      exact trimN_last v k h
    · rename_i h3
      simpa using h3
/-- The first numbers as bytes. -/
def vbN (v : List Int) (n : Nat) : List UInt8 := (v.take n).flatMap fun c => put c.toNat
def vb (v : List Int) : List UInt8 := vbN v (trimN v 16)
theorem vbN_succ {v : List Int} {i : Nat} (h : i < v.length) : vbN v (i + 1) = vbN v i ++ put v[i].toNat := by
  rw [vbN, List.take_succ_eq_append_getElem h, List.flatMap_append, vbN]; simp
theorem vbN_len {v : List Int} (h : VecOk v) : ∀ n, n ≤ 16 → (vbN v n).length ≤ 9 * n
  | 0, _ => by simp [vbN]
  | n + 1, hn => by
    have hl := h.1
    have h1 := vbN_len h n (by omega)
    have h2 := h.2 v[n] (List.getElem_mem _)
    have h3 := put_len (n := v[n].toNat) (by unfold cntOk at h2; omega)
    rw [vbN_succ (by omega), List.length_append]
    omega
theorem vbN_mono {v : List Int} (n : Nat) : ∀ m, n ≤ m → ∃ t, vbN v m = vbN v n ++ t := by
  intro m hm
  refine ⟨((v.take m).drop n).flatMap fun c => put c.toNat, ?_⟩
  rw [vbN, vbN, ← List.flatMap_append]
  congr 1
  conv => lhs; rw [← List.take_append_drop n (v.take m)]
  rw [List.take_take, Nat.min_eq_left hm]
theorem i_VecBytes (v : List Int) : CallD Try.prog id_impl_VecBytes [vV v] [] (.tup [(false, [.os 0 1 0 (if VecOk v then vb v else []).length]), (false, [cI (if VecOk v then 0 else 1)])]) [.own 1 ((if VecOk v then vb v else []).map byD)] := by
  refine F_impl_VecBytes ?_
  try (conv => whnf)
  repeat (refine SeqJ.thru ?_; conv => whnf)
  refine Hand.mk [] ?_
  try (conv => whnf)
  refine CallW.d (i_VecOK v) ?_
  try (conv => whnf)
  by_cases hv : VecOk v
  rotate_left
  · try (conv => whnf)
    repeat' (first
      | (refine br_dec (fun _ => ?_) (fun _ => ?_) <;> first | (exfalso; omega) | contradiction | conv => whnf)
      | (refine br_not ?_; conv => whnf)
      | (refine br_bne (fun _ => ?_) (fun _ => ?_) <;> first | (exfalso; omega) | contradiction | conv => whnf)
      | (refine br_beq (fun _ => ?_) (fun _ => ?_) <;> first | (exfalso; omega) | contradiction | conv => whnf))
    refine Out.mk false [0, 1, 2, 3, 4] [(0, 1)] ?_
    try (conv => whnf)
    repeat (refine Need.mk ?_ ?_; (focus ((first | exact flat_by _ | exact flat_in _ | exact flat_st _ | exact flat_ts _ | exact flat_bo _ | exact flat_cl rfl))); conv => whnf)
    rw [if_neg hv, if_neg hv]
    exact ⟨rfl, rfl⟩
  have hl := hv.1
  rw [if_pos hv, if_pos hv]
  try (conv => whnf)
  repeat' (first
    | (refine SeqJ.thru ?_; conv => whnf)
    | (refine br_dec (fun _ => ?_) (fun _ => ?_) <;> first | (exfalso; omega) | contradiction | conv => whnf)
    | (refine br_not ?_; conv => whnf)
    | (refine br_bne (fun _ => ?_) (fun _ => ?_) <;> first | (exfalso; omega) | contradiction | conv => whnf)
    | (refine br_beq (fun _ => ?_) (fun _ => ?_) <;> first | (exfalso; omega) | contradiction | conv => whnf))
  refine LoopE.mk (fun k : Nat => mk [(1, .one (.ptr 4096 0)), (4, vI .i64 k)] [(4096, .box [cN v])]) (fun k => k ≤ 16 ∧ trimN v 16 = trimN v k) (fun k => k) 16 ⟨by omega, rfl⟩ (LeX.of ?_) ?_
  · try (conv => whnf)
    repeat (refine Need.mk ?_ ?_; (focus (first | omega | (simp; done))); conv => whnf)
    trivial
  · rintro k ⟨hk, ht⟩
    rcases Nat.eq_zero_or_pos k with h0 | h0
    · try (conv => whnf)
      repeat' (first
        | (refine Need.mk ?_ ?_; (focus ((simp; done))); conv => whnf)
        | (refine Pick.mk ?_ ?_ ?_; rotate_left; (focus (first | with_reducible exact sl_map0 _ _ _ | (refine bnd_id ?_; omega) | exact List.length_map _)); conv => whnf)
        | (refine SeqJ.thru ?_; conv => whnf)
        | (refine br_dec (fun _ => ?_) (fun _ => ?_) <;> first | (exfalso; omega) | contradiction | conv => whnf)
        | (refine br_not ?_; conv => whnf)
        | (refine br_bne (fun _ => ?_) (fun _ => ?_) <;> first | (exfalso; omega) | contradiction | conv => whnf)
        | (refine br_beq (fun _ => ?_) (fun _ => ?_) <;> first | (exfalso; omega) | contradiction | conv => whnf))
      have ht : trimN v 16 = k := by rw [ht, h0]; rfl
      rename_i q
      clear h0 q
      refine LoopE.mk (fun i : Nat => mk [(5, .one (.os 5000 1 0 (vbN v i).length)), (27, vN (v.take k)), (28, vI .i64 (k : Nat)), (29, vI .i64 i)] [(5000, .own 1 ((vbN v i).map byD))]) (fun i => i ≤ k) (fun i => k - i) 0 (by omega) (LeX.of ?_) ?_
      · try (conv => whnf)
        repeat (refine Need.mk ?_ ?_; (focus (first | omega | (simp; done) | (simp; omega) | rfl)); conv => whnf)
        trivial
      · intro i hi
        have hb := vbN_len hv i (by omega)
        rcases Nat.lt_or_ge i k with hlt | hge
        · obtain ⟨n, hn⟩ : ∃ n : Nat, v[i]'(by omega) = n := ⟨(v[i]'(by omega)).toNat, by have := hv.2 _ (List.getElem_mem (show i < v.length by omega)); unfold cntOk at this; omega⟩
          have hn2 := hv.2 _ (List.getElem_mem (show i < v.length by omega))
          unfold cntOk at hn2
          have p2 : 0 ≤ (i : Int) ∧ ((v.take k).map inD)[(i : Int).toNat]? = some (inD (n : Int)) := ⟨by omega, by rw [← hn]; simp [hlt]⟩
          have e := vbN_succ (v := v) (i := i) (by omega)
          rw [hn, Int.toNat_natCast] at e
          have hp := put_len (n := n) (by omega)
          try (conv => whnf)
          repeat' (first
            | (refine Pick.mk ?_ ?_ ?_; rotate_left; (focus (assumption)); conv => whnf)
            | (refine SeqJ.thru ?_; conv => whnf)
            | (refine br_dec (fun _ => ?_) (fun _ => ?_) <;> first | (exfalso; omega) | contradiction | conv => whnf)
            | (refine br_not ?_; conv => whnf)
            | (refine br_bne (fun _ => ?_) (fun _ => ?_) <;> first | (exfalso; omega) | contradiction | conv => whnf)
            | (refine br_beq (fun _ => ?_) (fun _ => ?_) <;> first | (exfalso; omega) | contradiction | conv => whnf))
          refine Hand.mk [0] ?_
          try (conv => whnf)
          refine CallW.m (i_appendInt (vbN v i) _ n rfl (by omega) (by omega)) ?_
          try (conv => whnf)
          repeat (refine Pick.mk ?_ ?_ ?_; rotate_left; (focus ((refine wid ?_ ?_ <;> omega))); conv => whnf)
          refine Pick.mk (i + 1) ⟨by omega, by omega⟩ (LeX.of ?_)
          rw [e]
          try (conv => whnf)
          repeat (refine Need.mk ?_ ?_; (focus (first | omega | (simp; done))); conv => whnf)
          trivial
        · obtain rfl : i = k := by omega
          try (conv => whnf)
          repeat' (first
            | (refine SeqJ.thru ?_; conv => whnf)
            | (refine br_dec (fun _ => ?_) (fun _ => ?_) <;> first | (exfalso; omega) | contradiction | conv => whnf)
            | (refine br_not ?_; conv => whnf)
            | (refine br_bne (fun _ => ?_) (fun _ => ?_) <;> first | (exfalso; omega) | contradiction | conv => whnf)
            | (refine br_beq (fun _ => ?_) (fun _ => ?_) <;> first | (exfalso; omega) | contradiction | conv => whnf))
          refine Out.mk false [0, 1, 2, 3, 4] [] ?_
          try (conv => whnf)
          repeat (refine Need.mk ?_ ?_; (focus ((first | exact flat_by _ | exact flat_in _ | exact flat_st _ | exact flat_ts _ | exact flat_bo _ | exact flat_cl rfl))); conv => whnf)
          rw [vb, ht]
          exact ⟨rfl, rfl⟩
    · obtain ⟨m, hm⟩ : ∃ m, k = m + 1 := ⟨k - 1, by omega⟩
      have p0 := at_n v ((k : Int) - 1) m (by omega) (by omega)
      have hg : v.getD m 0 = v[m]'(by omega) := by rw [List.getD_eq_getElem?_getD, List.getElem?_eq_getElem (by omega)]; rfl
      rw [show trimN v k = (if v.getD m 0 = 0 then trimN v m else m + 1) from by rw [hm, trimN], hg] at ht
      by_cases hz : v[m]'(by omega) = 0
      · rw [if_pos hz] at ht
        try (conv => whnf)
        repeat' (first
          | (refine Pick.mk ?_ ?_ ?_; rotate_left; (focus (first | assumption | (refine wid ?_ ?_ <;> omega))); conv => whnf)
          | (refine SeqJ.thru ?_; conv => whnf)
          | (refine br_dec (fun _ => ?_) (fun _ => ?_) <;> first | (exfalso; omega) | contradiction | conv => whnf)
          | (refine br_not ?_; conv => whnf)
          | (refine br_bne (fun _ => ?_) (fun _ => ?_) <;> first | (exfalso; omega) | contradiction | conv => whnf)
          | (refine br_beq (fun _ => ?_) (fun _ => ?_) <;> first | (exfalso; omega) | contradiction | conv => whnf))
        refine Pick.mk m ⟨⟨by omega, ht⟩, by omega⟩ (LeX.of ?_)
        try (conv => whnf)
        repeat (refine Need.mk ?_ ?_; (focus (first | omega | (simp; done))); conv => whnf)
        trivial
      · rw [if_neg hz] at ht
        have ht : trimN v 16 = k := by omega
        try (conv => whnf)
        repeat' (first
          | (refine Need.mk ?_ ?_; (focus ((simp; done))); conv => whnf)
          | (refine Pick.mk ?_ ?_ ?_; rotate_left; (focus (first | assumption | with_reducible exact sl_map0 _ _ _ | (refine bnd_id ?_; omega) | exact List.length_map _ | (refine wid ?_ ?_ <;> omega))); conv => whnf)
          | (refine SeqJ.thru ?_; conv => whnf)
          | (refine br_dec (fun _ => ?_) (fun _ => ?_) <;> first | (exfalso; omega) | contradiction | conv => whnf)
          | (refine br_not ?_; conv => whnf)
          | (refine br_bne (fun _ => ?_) (fun _ => ?_) <;> first | (exfalso; omega) | contradiction | conv => whnf)
          | (refine br_beq (fun _ => ?_) (fun _ => ?_) <;> first | (exfalso; omega) | contradiction | conv => whnf))
        refine LoopE.mk (fun i : Nat => mk [(5, .one (.os 5000 1 0 (vbN v i).length)), (27, vN (v.take k)), (28, vI .i64 (k : Nat)), (29, vI .i64 i)] [(5000, .own 1 ((vbN v i).map byD))]) (fun i => i ≤ k) (fun i => k - i) 0 (by omega) (LeX.of ?_) ?_
        · try (conv => whnf)
          repeat (refine Need.mk ?_ ?_; (focus (first | omega | (simp; done) | (simp; omega) | rfl)); conv => whnf)
          trivial
        · intro i hi
          have hb := vbN_len hv i (by omega)
          rcases Nat.lt_or_ge i k with hlt | hge
          · obtain ⟨n, hn⟩ : ∃ n : Nat, v[i]'(by omega) = n := ⟨(v[i]'(by omega)).toNat, by have := hv.2 _ (List.getElem_mem (show i < v.length by omega)); unfold cntOk at this; omega⟩
            have hn2 := hv.2 _ (List.getElem_mem (show i < v.length by omega))
            unfold cntOk at hn2
            have p2 : 0 ≤ (i : Int) ∧ ((v.take k).map inD)[(i : Int).toNat]? = some (inD (n : Int)) := ⟨by omega, by rw [← hn]; simp [hlt]⟩
            have e := vbN_succ (v := v) (i := i) (by omega)
            rw [hn, Int.toNat_natCast] at e
            have hp := put_len (n := n) (by omega)
            try (conv => whnf)
            repeat' (first
              | (refine Pick.mk ?_ ?_ ?_; rotate_left; (focus (assumption)); conv => whnf)
              | (refine SeqJ.thru ?_; conv => whnf)
              | (refine br_dec (fun _ => ?_) (fun _ => ?_) <;> first | (exfalso; omega) | contradiction | conv => whnf)
              | (refine br_not ?_; conv => whnf)
              | (refine br_bne (fun _ => ?_) (fun _ => ?_) <;> first | (exfalso; omega) | contradiction | conv => whnf)
              | (refine br_beq (fun _ => ?_) (fun _ => ?_) <;> first | (exfalso; omega) | contradiction | conv => whnf))
            refine Hand.mk [0] ?_
            try (conv => whnf)
            refine CallW.m (i_appendInt (vbN v i) _ n rfl (by omega) (by omega)) ?_
            try (conv => whnf)
            repeat (refine Pick.mk ?_ ?_ ?_; rotate_left; (focus ((refine wid ?_ ?_ <;> omega))); conv => whnf)
            refine Pick.mk (i + 1) ⟨by omega, by omega⟩ (LeX.of ?_)
            rw [e]
            try (conv => whnf)
            repeat (refine Need.mk ?_ ?_; (focus (first | omega | (simp; done))); conv => whnf)
            trivial
          · obtain rfl : i = k := by omega
            try (conv => whnf)
            repeat' (first
              | (refine SeqJ.thru ?_; conv => whnf)
              | (refine br_dec (fun _ => ?_) (fun _ => ?_) <;> first | (exfalso; omega) | contradiction | conv => whnf)
              | (refine br_not ?_; conv => whnf)
              | (refine br_bne (fun _ => ?_) (fun _ => ?_) <;> first | (exfalso; omega) | contradiction | conv => whnf)
              | (refine br_beq (fun _ => ?_) (fun _ => ?_) <;> first | (exfalso; omega) | contradiction | conv => whnf))
            refine Out.mk false [0, 1, 2, 3, 4] [] ?_
            try (conv => whnf)
            repeat (refine Need.mk ?_ ?_; (focus ((first | exact flat_by _ | exact flat_in _ | exact flat_st _ | exact flat_ts _ | exact flat_bo _ | exact flat_cl rfl))); conv => whnf)
            rw [vb, ht]
            exact ⟨rfl, rfl⟩
theorem vbN_end {v : List Int} (h : v.length = 16) : ∀ j, trimN v 16 ≤ j → j < 16 → v.getD j 0 = 0 := trimN_zero v 16
theorem over_zero {v : List Int} {i : Nat} (hl : v.length = 16) (hn : i ≤ 16) (hz : ∀ j, i ≤ j → j < 16 → v.getD j 0 = 0) : over v (List.replicate 16 0) i = v := by
  rw [over]
  conv => rhs; rw [← List.take_append_drop i v]
  congr 1
  apply List.ext_getElem
  · simp; omega
  · intro j h1 h2
    simp at h1 h2
    have := hz (i + j) (by omega) (by omega)
    rw [List.getD_eq_getElem?_getD, List.getElem?_eq_getElem (by omega)] at this
    rw [List.getElem_drop, List.getElem_drop, List.getElem_replicate]
    exact this.symm
/-- Reading the bytes of a vector. -/
theorem i_ReadVec_vb (v : List Int) (hv : VecOk v) : CallD Try.prog id_impl_ReadVec [vY (vb v)] [] (.tup [(true, [.os 0 1 0 16]), (false, [cI 0])]) [.own 1 (v.map inD)] := by
  refine F_impl_ReadVec ?_
  have hl := hv.1
  have hn := trimN_le v 16
  have hB := vbN_len hv (trimN v 16) hn
  have hlast := trimN_last v 16
  have hzero := trimN_zero v 16
  rw [vb]
  generalize trimN v 16 = n at hn hB hlast hzero ⊢
  try (conv => whnf)
  repeat' (first
    | (refine Need.mk ?_ ?_; (focus (omega)); conv => whnf)
    | (refine Pick.mk ?_ ?_ ?_; rotate_left; (focus (first | exact List.length_map _ | (simp only [List.length_map, List.length_append, List.length_cons, List.length_nil, List.length_replicate, Nat.zero_add]; rfl) | exact natlit _)); conv => whnf)
    | (refine SeqJ.thru ?_; conv => whnf)
    | (refine br_dec (fun _ => ?_) (fun _ => ?_) <;> first | (exfalso; omega) | contradiction | conv => whnf)
    | (refine br_not ?_; conv => whnf)
    | (refine br_bne (fun _ => ?_) (fun _ => ?_) <;> first | (exfalso; omega) | contradiction | conv => whnf)
    | (refine br_beq (fun _ => ?_) (fun _ => ?_) <;> first | (exfalso; omega) | contradiction | conv => whnf))
  refine LoopE.mk (fun (x : Nat × Int) => mk [(0, vY (vbN v n)), (2, .one (.ptr 4096 0)), (4, .one (.ptr 16416 0)), (5, .one (.os 20480 1 0 16)), (6, vI .i64 x.2), (7, vI .i64 x.1)] [(4096, .box [.nil]), (16416, rdR (vbN v n) (vbN v x.1).length false), (20480, .own 1 ((over v (List.replicate 16 0) x.1).map inD))])
    (fun x => x.1 ≤ n ∧ (x.1 = 0 ∧ x.2 = 1 ∨ 0 < x.1 ∧ x.2 = v.getD (x.1 - 1) 0)) (fun x => n - x.1) (0, 1) ⟨by omega, .inl ⟨rfl, rfl⟩⟩ (LeX.of ?_) ?_
  · try (conv => whnf)
    repeat (refine Need.mk ?_ ?_; (focus (first | omega | (simp; done) | rfl)); conv => whnf)
    trivial
  · rintro ⟨i, last⟩ ⟨hi, hla⟩
    dsimp only at hi hla ⊢
    obtain ⟨t, ht⟩ := vbN_mono (v := v) i n hi
    rcases Nat.lt_or_ge i n with hlt | hge
    · obtain ⟨c, hc⟩ : ∃ c : Nat, v[i]'(by omega) = c := ⟨(v[i]'(by omega)).toNat, by have := hv.2 _ (List.getElem_mem (show i < v.length by omega)); unfold cntOk at this; omega⟩
      have hc2 := hv.2 _ (List.getElem_mem (show i < v.length by omega))
      unfold cntOk at hc2
      obtain ⟨t2, ht2⟩ := vbN_mono (v := v) (i + 1) n (by omega)
      have e := vbN_succ (v := v) (i := i) (by omega)
      rw [hc, Int.toNat_natCast] at e
      have hp := put_pos c
      have hlen := congrArg List.length ht2
      rw [e] at hlen
      simp only [List.length_append] at hlen
      have hget : get (vbN v n) (vbN v i).length = some (c, (vbN v (i + 1)).length) := by
        have := get_put (vbN v i) t2 c (by simp only [MaxN]; omega)
        rw [ht2, e, List.append_assoc, this]
        simp
      have hs := over_set (m := v) (t := List.replicate 16 0) (j := i) (by simp [hl]) (by simp; omega)
      have hg := over_get (m := v) (t := List.replicate 16 (0 : Int)) (j := i) (by simp [hl]) (by simp; omega)
      rw [hc] at hs
      simp only [List.getElem_replicate] at hg
      have q0 : ((over v (List.replicate 16 0) i).map inD)[addN 0 (i : Int).toNat]? = some (inD 0) := by rw [addN_eq, show 0 + (i : Int).toNat = i by omega, List.getElem?_map, hg]; rfl
      generalize hO : over v (List.replicate 16 0) i = O at hs q0 hg ⊢
      try (conv => whnf)
      repeat' (first
        | (refine Pick.mk ?_ ?_ ?_; rotate_left; (focus (exact List.length_map _)); conv => whnf)
        | (refine SeqJ.thru ?_; conv => whnf)
        | (refine br_dec (fun _ => ?_) (fun _ => ?_) <;> first | (exfalso; omega) | contradiction | conv => whnf)
        | (refine br_not ?_; conv => whnf)
        | (refine br_bne (fun _ => ?_) (fun _ => ?_) <;> first | (exfalso; omega) | contradiction | conv => whnf)
        | (refine br_beq (fun _ => ?_) (fun _ => ?_) <;> first | (exfalso; omega) | contradiction | conv => whnf))
      refine Hand.mk [] ?_
      try (conv => whnf)
      refine CallW.n (i_num hget (by omega)) ?_
      rintro _ _ ⟨rfl, rfl⟩
      try (conv => whnf)
      repeat' (first
        | (refine Need.mk ?_ ?_; (focus (omega)); conv => whnf)
        | (refine Pick.mk ?_ ?_ ?_; rotate_left; (focus (first | assumption | with_reducible exact set_inN _ _ _ _ | (refine wid ?_ ?_ <;> omega))); conv => whnf)
        | (refine SeqJ.thru ?_; conv => whnf)
        | (refine br_dec (fun _ => ?_) (fun _ => ?_) <;> first | (exfalso; omega) | contradiction | conv => whnf)
        | (refine br_not ?_; conv => whnf)
        | (refine br_bne (fun _ => ?_) (fun _ => ?_) <;> first | (exfalso; omega) | contradiction | conv => whnf)
        | (refine br_beq (fun _ => ?_) (fun _ => ?_) <;> first | (exfalso; omega) | contradiction | conv => whnf))
      refine Pick.mk (i + 1, (c : Int)) ⟨⟨by dsimp only; omega, .inr ⟨by dsimp only; omega, ?_⟩⟩, by dsimp only; omega⟩ (LeX.of ?_)
      · dsimp only
        rw [List.getD_eq_getElem?_getD, Nat.add_sub_cancel, List.getElem?_eq_getElem (by omega), ← hc]; rfl
      · rw [← hs]
        try (conv => whnf)
        repeat (refine Need.mk ?_ ?_; (focus (first | omega | (simp; done))); conv => whnf)
        trivial
    · obtain rfl : i = n := by omega
      have hO : over v (List.replicate 16 0) i = v := over_zero hl hn hzero
      have hne : last ≠ 0 := by
        rcases hla with ⟨h1, h2⟩ | ⟨h1, h2⟩
        · omega
        · rw [h2]; exact hlast h1
      rw [hO]
      try (conv => whnf)
      repeat' (first
        | (refine Pick.mk ?_ ?_ ?_; rotate_left; (focus (exact List.length_map _)); conv => whnf)
        | (refine SeqJ.thru ?_; conv => whnf)
        | (refine br_dec (fun _ => ?_) (fun _ => ?_) <;> first | (exfalso; omega) | contradiction | conv => whnf)
        | (refine br_not ?_; conv => whnf)
        | (refine br_bne (fun _ => ?_) (fun _ => ?_) <;> first | (exfalso; omega) | contradiction | conv => whnf)
        | (refine br_beq (fun _ => ?_) (fun _ => ?_) <;> first | (exfalso; omega) | contradiction | conv => whnf))
      refine Out.mk false [0, 1, 2, 3, 4] [] ?_
      try (conv => whnf)
      repeat (refine Need.mk ?_ ?_; (focus ((first | exact flat_by _ | exact flat_in _ | exact flat_st _ | exact flat_ts _ | exact flat_bo _ | exact flat_cl rfl))); conv => whnf)
      exact ⟨rfl, rfl⟩
end Go.Proofs.Ytoklfidamhigcaa.D
