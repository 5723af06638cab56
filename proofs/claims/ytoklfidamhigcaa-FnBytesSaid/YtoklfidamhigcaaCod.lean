/- Numbers and texts as bytes: what the functions of both give back. -/
import Derived.Test.YtoklfidamhigcaaPRun
import Derived.Test.YtoklfidamhigcaaSum2
namespace Go.Proofs.Ytoklfidamhigcaa.D
open Go.RowKit
set_option maxRecDepth 100000
set_option linter.unusedVariables false
set_option linter.unusedSimpArgs false

theorem put_byte (v : Nat) (h : v < 128) : put v = [u8 v] := put_lt h
theorem divN (v k : Nat) : (v : Int) / (@OfNat.ofNat Int k instOfNat) = ((v / k : Nat) : Int) := by
  show (v : Int) / ((k : Nat) : Int) = _
  omega
theorem s_l01Put : ∀ v : Nat, v < 2 ^ 63 → CallD Try.prog id_spec_l01Put [vI .i64 v] [] (.one (.os 0 1 0 (put v).length)) [.own 1 ((put v).map byD)] := by
  intro v
  induction v using Nat.strongRecOn with
  | _ v ih =>
    intro hv
    have hl := put_len hv
    refine F_spec_l01Put ?_
    try (conv => whnf)
    repeat' (first
      | (refine Need.mk ?_ ?_; (focus (omega)); conv => whnf)
      | (refine Pick.mk ?_ ?_ ?_; rotate_left; (focus (first | (simp only [chunks]; rfl) | (refine wid ?_ ?_ <;> omega) | (refine tmodn ?_; omega) | (refine wdiv ?_ ?_ ?_ <;> omega) | exact wbyte _)); conv => whnf)
      | (refine SeqJ.thru ?_; conv => whnf)
      | (refine br_dec (fun _ => ?_) (fun _ => ?_) <;> first | (exfalso; omega) | contradiction | conv => whnf)
      | (refine br_not ?_; conv => whnf)
      | (refine br_bne (fun _ => ?_) (fun _ => ?_) <;> first | (exfalso; omega) | contradiction | conv => whnf)
      | (refine br_beq (fun _ => ?_) (fun _ => ?_) <;> first | (exfalso; omega) | contradiction | conv => whnf))
    · refine Out.mk false [0, 1, 2, 3, 4] [] ?_
      try (conv => whnf)
      repeat (refine Need.mk ?_ ?_; (focus ((first | exact flat_by _ | exact flat_in _ | exact flat_st _ | exact flat_ts _ | exact flat_bo _ | exact flat_cl rfl))); conv => whnf)
      rw [put_lt (by omega)]
      exact ⟨rfl, rfl⟩
    · have hl' := put_len (n := v / 128) (by omega)
      rw [divN]
      refine Hand.mk [] ?_
      try (conv => whnf)
      refine CallW.d (ih (v / 128) (by omega) (by omega)) ?_
      try (conv => whnf)
      repeat (first
        | (refine Need.mk ?_ ?_; (focus (omega)); conv => whnf)
        | (refine Pick.mk ?_ ?_ ?_; rotate_left; (focus (first | (simp only [List.length_map, List.length_append, List.length_cons, List.length_nil, List.length_replicate, Nat.zero_add]; rfl) | (refine SlOf.full ?_; first | (simp; done) | (simp; omega)) | ((fail_if_success (show @Eq (Option _) _ _)); rfl))); conv => whnf))
      refine Out.mk false [0, 1, 2, 3, 4] [] ?_
      try (conv => whnf)
      repeat (refine Need.mk ?_ ?_; (focus ((refine flat_app ?_ ?_ <;> (first | exact flat_by _ | exact flat_in _ | exact flat_st _ | exact flat_ts _ | exact flat_bo _ | exact flat_cl rfl)))); conv => whnf)
      rw [put_ge (by omega)]
      have e : (128 : Int) + (v : Int) % 128 = ((128 + v % 128 : Nat) : Int) := by omega
      rw [e]
      exact ⟨by simp; omega, by simp⟩
theorem or_u8 (a : Nat) (h : a < 128) : bits .or .u8 ((u8 (a : Int)).toNat : Int) 128 = ((u8 ((128 + a : Nat) : Int)).toNat : Int) := by
  rw [u8_nat (by omega), u8_nat (by omega)]
  show IntKind.u8.wrap (((BitVec.ofInt 8 (a : Int) ||| BitVec.ofInt 8 ((128 : Nat) : Int)).toNat : Nat) : Int) = _
  rw [bv_or 8 (by omega) (by omega), wu8]
  have : a ||| 128 = 128 + a := by
    have := Nat.shiftLeft_add_eq_or_of_lt (show a < 2 ^ 7 by omega) 1
    rw [Nat.or_comm]; simpa using this.symm
  rw [this]; omega
theorem and127 (v : Nat) (h : v < 2 ^ 63) : bits .and .i64 (v : Int) 127 = ((v % 128 : Nat) : Int) := by
  have := and_i64 (a := v) (b := 127) (by omega) (by omega)
  have e : v &&& 127 = v % 128 := Nat.and_two_pow_sub_one_eq_mod v 7
  rw [e] at this; exact this
theorem shr7 (v : Nat) : (v : Int).fdiv (2 ^ (min (7 : Int).toNat (IntKind.i64).bits)) = ((v / 128 : Nat) : Int) := by
  show (v : Int).fdiv 128 = _
  rw [Int.fdiv_eq_ediv_of_nonneg _ (by omega)]; omega
/-- The groups ahead of a number's last ones. -/
theorem put_shift (v : Nat) (h : 128 ≤ v) (l : List UInt8) : l ++ [u8 ((128 + v % 128 : Nat) : Int)] ++ put (v / 128) = l ++ put v := by
  rw [put_ge h]; simp
theorem i_appendInt (a : List UInt8) (n : Nat) (v : Nat) (hn : n = a.length) (ha : n ≤ 2 ^ 46) (hv : v < 2 ^ 63) :
    CallMD Try.prog id_impl_appendInt [.one (.os 0 1 0 n), vI .i64 v] [.own 1 (a.map byD)] [0] (.one (.os 0 1 0 (a ++ put v).length)) [.own 1 ((a ++ put v).map byD)] := by
  subst hn
  refine F_impl_appendInt ?_
  try (conv => whnf)
  repeat (refine SeqJ.thru ?_; conv => whnf)
  have hl := put_len hv
  refine LoopE.mk (fun (x : List UInt8 × Nat) => mk [(0, .one (.os 0 1 0 x.1.length)), (1, vI .i64 x.2)] [(0, .own 1 (x.1.map byD))] [0]) (fun x => x.1 ++ put x.2 = a ++ put v ∧ x.2 ≤ v ∧ x.1.length ≤ a.length + 10) (fun x => x.2) (a, v) (by simp; done) (LeX.of ?_) ?_
  · try (conv => whnf)
    repeat (refine Need.mk ?_ ?_; (focus (first | omega | (simp; done))); conv => whnf)
    trivial
  · rintro ⟨l, x⟩ ⟨h1, h2, h3⟩
    dsimp only at h1 h2 h3 ⊢
    have hx := put_len (n := x) (by omega)
    have hlen : l.length + (put x).length = a.length + (put v).length := by have := congrArg List.length h1; simpa using this
    have := put_pos x
    try (conv => whnf)
    repeat (refine SeqJ.thru ?_; conv => whnf)
    refine br_dec (fun h9 => ?_) (fun h9 => ?_)
    · try (conv => whnf)
      repeat (first
        | (refine Need.mk ?_ ?_; (focus (omega)); conv => whnf)
        | (refine Pick.mk ?_ ?_ ?_; rotate_left; (focus (first | with_reducible exact shr7 _ | (with_reducible refine or_u8 _ ?_; omega) | (with_reducible refine and127 _ ?_; omega) | (simp only [List.length_map, List.length_append, List.length_cons, List.length_nil, List.length_replicate, Nat.zero_add]; rfl) | exact map_snoc byD _ _ | (simp only [chunks]; rfl) | exact wbyte _ | (refine SlOf.full ?_; first | (simp; done) | (simp; omega)))); conv => whnf))
      refine Pick.mk (l ++ [u8 ((128 + x % 128 : Nat) : Int)], x / 128) ⟨⟨by rw [put_shift x (by omega)]; exact h1, by dsimp only; omega, ?_⟩, by dsimp only; omega⟩ (LeX.of ?_)
      · have e := put_shift x (by omega) l
        have := congrArg List.length e
        simp at this ⊢; omega
      · try (conv => whnf)
        repeat (refine Need.mk ?_ ?_; (focus (first | omega | (simp; done))); conv => whnf)
        trivial
    · try (conv => whnf)
      repeat (first
        | (refine Need.mk ?_ ?_; (focus (omega)); conv => whnf)
        | (refine Pick.mk ?_ ?_ ?_; rotate_left; (focus (first | (simp only [List.length_map, List.length_append, List.length_cons, List.length_nil, List.length_replicate, Nat.zero_add]; rfl) | exact map_snoc byD _ _ | (simp only [chunks]; rfl) | exact wbyte _ | (refine SlOf.full ?_; first | (simp; done) | (simp; omega)))); conv => whnf))
      refine Out.mk false [0, 1, 2, 3, 4] [] ?_
      try (conv => whnf)
      repeat (refine Need.mk ?_ ?_; (focus ((first | exact flat_by _ | exact flat_in _ | exact flat_st _ | exact flat_ts _ | exact flat_bo _ | exact flat_cl rfl))); conv => whnf)
      have e : a ++ put v = l ++ [u8 x] := by rw [← h1, put_lt (by omega)]
      skip
      rw [e]
      exact ⟨by simp, by simp⟩
theorem i_appendInt_nil (v : Nat) (hv : v < 2 ^ 63) :
    CallD Try.prog id_impl_appendInt [.one .nil, vI .i64 v] [] (.one (.os 0 1 0 (put v).length)) [.own 1 ((put v).map byD)] := by
  refine F_impl_appendInt ?_
  try (conv => whnf)
  repeat (refine SeqJ.thru ?_; conv => whnf)
  have hl := put_len hv
  refine LoopE.mk (fun (x : List UInt8 × Nat) => mk [(0, .one (.os 5000 1 0 x.1.length)), (1, vI .i64 x.2)] [(5000, .own 1 (x.1.map byD))] []) (fun x => x.1 ++ put x.2 = ([] : List UInt8) ++ put v ∧ x.2 ≤ v ∧ x.1.length ≤ 0 + 10) (fun x => x.2) (([] : List UInt8), v) (by simp; done) (LeX.of ?_) ?_
  · try (conv => whnf)
    repeat (refine Need.mk ?_ ?_; (focus (first | omega | (simp; done))); conv => whnf)
    trivial
  · rintro ⟨l, x⟩ ⟨h1, h2, h3⟩
    dsimp only at h1 h2 h3 ⊢
    have hx := put_len (n := x) (by omega)
    have hlen : l.length + (put x).length = 0 + (put v).length := by have := congrArg List.length h1; simpa using this
    have := put_pos x
    try (conv => whnf)
    repeat (refine SeqJ.thru ?_; conv => whnf)
    refine br_dec (fun h9 => ?_) (fun h9 => ?_)
    · try (conv => whnf)
      repeat (first
        | (refine Need.mk ?_ ?_; (focus (omega)); conv => whnf)
        | (refine Pick.mk ?_ ?_ ?_; rotate_left; (focus (first | with_reducible exact shr7 _ | (with_reducible refine or_u8 _ ?_; omega) | (with_reducible refine and127 _ ?_; omega) | (simp only [List.length_map, List.length_append, List.length_cons, List.length_nil, List.length_replicate, Nat.zero_add]; rfl) | exact map_snoc byD _ _ | (simp only [chunks]; rfl) | exact wbyte _ | (refine SlOf.full ?_; first | (simp; done) | (simp; omega)))); conv => whnf))
      refine Pick.mk (l ++ [u8 ((128 + x % 128 : Nat) : Int)], x / 128) ⟨⟨by rw [put_shift x (by omega)]; exact h1, by dsimp only; omega, ?_⟩, by dsimp only; omega⟩ (LeX.of ?_)
      · have e := put_shift x (by omega) l
        have := congrArg List.length e
        simp at this ⊢; omega
      · try (conv => whnf)
        repeat (refine Need.mk ?_ ?_; (focus (first | omega | (simp; done))); conv => whnf)
        trivial
    · try (conv => whnf)
      repeat (first
        | (refine Need.mk ?_ ?_; (focus (omega)); conv => whnf)
        | (refine Pick.mk ?_ ?_ ?_; rotate_left; (focus (first | (simp only [List.length_map, List.length_append, List.length_cons, List.length_nil, List.length_replicate, Nat.zero_add]; rfl) | exact map_snoc byD _ _ | (simp only [chunks]; rfl) | exact wbyte _ | (refine SlOf.full ?_; first | (simp; done) | (simp; omega)))); conv => whnf))
      refine Out.mk false [0, 1, 2, 3, 4] [] ?_
      try (conv => whnf)
      repeat (refine Need.mk ?_ ?_; (focus ((first | exact flat_by _ | exact flat_in _ | exact flat_st _ | exact flat_ts _ | exact flat_bo _ | exact flat_cl rfl))); conv => whnf)
      have e : ([] : List UInt8) ++ put v = l ++ [u8 x] := by rw [← h1, put_lt (by omega)]
      rw [List.nil_append] at e
      rw [e]
      exact ⟨by simp, by simp⟩
/-- What a reader's call for a number gives: where it is bad, what is left is not told. -/
abbrev rdR (l : List UInt8) (a : Nat) (bad : Bool) : Row := .box [cY l, cI a, cB bad]
theorem s_l01Get (l : List UInt8) (a : Nat) (hl : l.length ≤ 2 ^ 40) (ha : a ≤ 2 ^ 40) :
    CallM Try.prog id_spec_l01Get [vY l, vI .i64 a] [] [] true fun r Lo => ∃ v b ok, Lo = [] ∧ r = .tup [(false, [cI v]), (false, [cI b]), (false, [cB ok])] ∧
      match get l a with | some (x, y) => ok = true ∧ v = x ∧ b = y | none => ok = false := by
  refine F_spec_l01Get ?_
  try (conv => whnf)
  refine LoopE.mk (fun (x : Nat × Nat) => mk [(0, vY l), (1, vI .i64 a), (7, vI .i64 x.2), (8, vI .i64 ((128 ^ (min x.1 8) : Nat) : Int)), (9, vI .i64 x.1)] [])
    (fun x => x.1 ≤ 8 ∧ x.2 < 128 ^ x.1 ∧ get l a = (gs x.1 (l.drop (a + x.1))).map fun r => (x.2 + 128 ^ x.1 * r.1, a + x.1 + r.2)) (fun x => 9 - x.1) (0, 0) ⟨by simp, by simp, by simp [get]⟩ (LeX.of ?_) ?_
  · try (conv => whnf)
    repeat (refine Need.mk ?_ ?_; (focus (first | omega | (simp; done))); conv => whnf)
    trivial
  · rintro ⟨n, v⟩ ⟨h1, h2, h3⟩
    dsimp only at h1 h2 h3 ⊢
    have hp : 128 ^ n ≤ 128 ^ 8 := Nat.pow_le_pow_right (by omega) h1
    have hp7 : n = 8 ∨ 128 ^ n ≤ 128 ^ 7 := by
      rcases Nat.lt_or_ge n 8 with h | h
      · exact .inr (Nat.pow_le_pow_right (by omega) (by omega))
      · exact .inl (by omega)
    have hp9 : (128 : Nat) ^ (n + 1) = 128 ^ n * 128 := Nat.pow_succ ..
    have e8 : min n 8 = n := by omega
    rw [e8]
    rcases Nat.lt_or_ge (a + n) l.length with hlt | hge
    · have hc := l[a + n].toNat_lt
      have hm : l[a + n].toNat % 128 * 128 ^ n ≤ 127 * 128 ^ n := Nat.mul_le_mul_right _ (by omega)
      have hd : l.drop (a + n) = l[a + n] :: l.drop (a + (n + 1)) := List.drop_eq_getElem_cons hlt
      rw [hd, gs] at h3
      have hcm : (l[a + n].toNat : Int) % 128 * ((128 ^ n : Nat) : Int) = ((l[a + n].toNat % 128 * 128 ^ n : Nat) : Int) := by simp
      have hvm : v + l[a + n].toNat % 128 * 128 ^ n < 128 ^ (n + 1) := by rw [Nat.pow_succ]; omega
      have hfin : l[a + n].toNat < 128 → ¬ (n = 8 ∧ 63 < l[a + n].toNat) → get l a = if n = 0 ∨ 0 < l[a + n].toNat then some (v + l[a + n].toNat % 128 * 128 ^ n, a + n + 1) else none := fun g1 g2 => by
        rw [h3, if_neg g2, if_pos g1]
        split
        · rw [Nat.mod_eq_of_lt g1, Nat.mul_comm l[a + n].toNat]; rfl
        · rfl
      try (conv => whnf)
      repeat' (first
        | (refine Need.mk ?_ ?_; (focus (omega)); conv => whnf)
        | (refine Pick.mk ?_ ?_ ?_; rotate_left; (focus (first | exact List.length_map _ | (refine wid ?_ ?_ <;> omega) | (refine tmodn ?_; omega) | (refine pick_nat _ _ _ ?_; omega))); conv => whnf)
        | (refine SeqJ.thru ?_; conv => whnf)
        | (refine br_dec (fun _ => ?_) (fun _ => ?_) <;> first | (exfalso; omega) | contradiction | conv => whnf)
        | (refine br_not ?_; conv => whnf)
        | (refine br_bne (fun _ => ?_) (fun _ => ?_) <;> first | (exfalso; omega) | contradiction | conv => whnf)
        | (refine br_beq (fun _ => ?_) (fun _ => ?_) <;> first | (exfalso; omega) | contradiction | conv => whnf))
      · refine Out.mk true [] [] ?_
        try (conv => whnf)
        exact ⟨_, _, _, rfl, rfl, by rw [h3, if_pos (by omega)]; exact rfl⟩
      · refine Out.mk true [] [] ?_
        try (conv => whnf)
        refine ⟨_, _, _, rfl, rfl, ?_⟩
        rw [hfin (by omega) (by omega)]
        by_cases h0 : 0 < l[a + n].toNat
        · rw [if_pos (.inr h0)]; exact ⟨by simp; omega, by simp, by simp⟩
        · rw [if_neg (by omega)]; simp; omega
      · refine Out.mk true [] [] ?_
        try (conv => whnf)
        refine ⟨_, _, _, rfl, rfl, ?_⟩
        rw [hfin (by omega) (by omega), if_pos (by omega)]
        exact ⟨rfl, by simp, by simp⟩
      · refine Out.mk true [] [] ?_
        try (conv => whnf)
        refine ⟨_, _, _, rfl, rfl, ?_⟩
        rw [hfin (by omega) (by omega)]
        by_cases h0 : 0 < l[a + n].toNat
        · rw [if_pos (.inr h0)]; exact ⟨by simp; omega, by simp, by simp⟩
        · rw [if_neg (by omega)]; simp; omega
      · refine Pick.mk (n + 1, v + l[a + n].toNat % 128 * 128 ^ n) ⟨⟨by dsimp only; omega, by dsimp only; exact hvm, ?_⟩, by dsimp only; omega⟩ (LeX.of ?_)
        · dsimp only
          rw [h3, if_neg (by omega), if_neg (by omega), Option.map_map]
          congr 1
          funext r
          simp only [Function.comp, Prod.mk.injEq]
          refine ⟨?_, by omega⟩
          rw [Nat.mul_add, Nat.pow_succ, Nat.mul_comm (128 ^ n) (_ % 128), ← Nat.add_assoc, Nat.mul_assoc]
        · have e9 : min (n + 1) 8 = n + 1 := by omega
          rw [e9]
          try (conv => whnf)
          repeat (refine Need.mk ?_ ?_; (focus (first | omega | (simp; done))); conv => whnf)
          trivial
    · have hn : get l a = none := by rw [h3, List.drop_eq_nil_of_le hge]; rfl
      try (conv => whnf)
      repeat' (first
        | (refine Pick.mk ?_ ?_ ?_; rotate_left; (focus (first | exact List.length_map _ | (refine wid ?_ ?_ <;> omega))); conv => whnf)
        | (refine SeqJ.thru ?_; conv => whnf)
        | (refine br_dec (fun _ => ?_) (fun _ => ?_) <;> first | (exfalso; omega) | contradiction | conv => whnf)
        | (refine br_not ?_; conv => whnf)
        | (refine br_bne (fun _ => ?_) (fun _ => ?_) <;> first | (exfalso; omega) | contradiction | conv => whnf)
        | (refine br_beq (fun _ => ?_) (fun _ => ?_) <;> first | (exfalso; omega) | contradiction | conv => whnf))
      refine Out.mk true [] [] ?_
      try (conv => whnf)
      exact ⟨_, _, _, rfl, rfl, by rw [hn]⟩
end Go.Proofs.Ytoklfidamhigcaa.D
